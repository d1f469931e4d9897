/- A filter's numbers, plainly. -/
import Derived.Test.YtppcccocnmhbgaaRefRice
import Derived.Test.YtppcccocnmhbgaaDec
namespace Go.Proofs.Ytppcccocnmhbgaa
open Go Go.RowKit
set_option linter.unusedVariables false

/-- how many ones stand ahead -/
def lead : List Bool → Nat
  | true :: t => lead t + 1
  | _ => 0
theorem lead_split : ∀ s : List Bool, s = List.replicate (lead s) true ++ s.drop (lead s) ∧ (s.drop (lead s) = [] ∨ ∃ t, s.drop (lead s) = false :: t)
  | [] => ⟨rfl, .inl rfl⟩
  | false :: t => ⟨rfl, .inr ⟨t, rfl⟩⟩
  | true :: t => by
    obtain ⟨h1, h2⟩ := lead_split t
    refine ⟨?_, h2⟩
    show true :: t = List.replicate (lead t + 1) true ++ t.drop (lead t)
    rw [List.replicate_succ, List.cons_append, ← h1]
/-- a code is read -/
def riceO (C most : Nat) (s : List Bool) : Option (Nat × List Bool) :=
  if most < lead s then none else match s.drop (lead s) with
    | [] => none
    | _ :: t => if t.length < C then none else some (lead s * 2 ^ C + valOf (t.take C), t.drop C)
/-- where it fails -/
theorem riceO_none {C most : Nat} {s : List Bool} (h : riceO C most s = none) : ∃ q T, s = List.replicate q true ++ T ∧ q ≤ most ∧ (T = [] ∨ (∃ t, T = false :: t ∧ t.length < C) ∨ (∃ t, T = true :: t ∧ q = most)) := by
  obtain ⟨h1, h2⟩ := lead_split s
  unfold riceO at h
  by_cases hm : most < lead s
  · refine ⟨most, List.replicate (lead s - most) true ++ s.drop (lead s), ?_, Nat.le_refl _, .inr (.inr ⟨List.replicate (lead s - most - 1) true ++ s.drop (lead s), ?_, rfl⟩)⟩
    · rw [← List.append_assoc, List.replicate_append_replicate, show most + (lead s - most) = lead s from by omega]; exact h1
    · rw [show lead s - most = (lead s - most - 1) + 1 from by omega, List.replicate_succ, List.cons_append]; rfl
  · rw [if_neg hm] at h
    rcases h2 with h2 | ⟨t, h2⟩
    · exact ⟨lead s, [], by rw [← h2]; exact h1, by omega, .inl rfl⟩
    · rw [h2] at h
      simp only at h
      by_cases ht : t.length < C
      · exact ⟨lead s, false :: t, by rw [← h2]; exact h1, by omega, .inr (.inl ⟨t, rfl, ht⟩)⟩
      · rw [if_neg ht] at h; cases h
theorem riceO_some {C most d : Nat} {s s' : List Bool} (h : riceO C most s = some (d, s')) : ∃ q t, s = List.replicate q true ++ false :: t ∧ q ≤ most ∧ C ≤ t.length ∧ d = q * 2 ^ C + valOf (t.take C) ∧ s' = t.drop C := by
  obtain ⟨h1, h2⟩ := lead_split s
  unfold riceO at h
  by_cases hm : most < lead s
  · rw [if_pos hm] at h; cases h
  · rw [if_neg hm] at h
    rcases h2 with h2 | ⟨t, h2⟩
    · rw [h2] at h; cases h
    · rw [h2] at h
      simp only at h
      by_cases ht : t.length < C
      · rw [if_pos ht] at h; cases h
      · rw [if_neg ht] at h
        cases h
        exact ⟨lead s, t, by rw [← h2]; exact h1, by omega, by omega, rfl, rfl⟩
/-- so many numbers are read -/
def valLoop (n : Nat) : Nat → Nat → List Bool → Option (List Nat × List Bool)
  | 0, _, s => some ([], s)
  | k + 1, sum, s => match riceO 19 (2 * n) s with
    | none => none
    | some (d, s') => if n * 784931 ≤ sum + d then none else (valLoop n k (sum + d) s').map fun (p : List Nat × List Bool) => ((sum + d) :: p.1, p.2)
/-- the numbers in a filter -/
def valuesS (bs : List Int) : Option (List Nat) :=
  if decE bs ≠ 0 ∨ 20000 < decN bs then none else match valLoop (decN bs) (decN bs) 0 (unpack (decR bs)) with
    | none => none
    | some (l, s) => if 7 < s.length then none else if valOf s ≠ 0 then none else some l
theorem valLoop_none {n k sum : Nat} {s : List Bool} (h : riceO 19 (2 * n) s = none) : valLoop n (k + 1) sum s = none := by
  unfold valLoop; rw [h]
theorem valLoop_over {n k sum d : Nat} {s s' : List Bool} (h : riceO 19 (2 * n) s = some (d, s')) (h2 : n * 784931 ≤ sum + d) : valLoop n (k + 1) sum s = none := by
  unfold valLoop; rw [h]; simp only; rw [if_pos h2]
theorem valLoop_step {n k sum d : Nat} {s s' : List Bool} (h : riceO 19 (2 * n) s = some (d, s')) (h2 : ¬ n * 784931 ≤ sum + d) : valLoop n (k + 1) sum s = (valLoop n k (sum + d) s').map fun (p : List Nat × List Bool) => ((sum + d) :: p.1, p.2) := by
  show (match riceO 19 (2 * n) s with
    | none => none
    | some (d, s') => if n * 784931 ≤ sum + d then none else (valLoop n k (sum + d) s').map fun (p : List Nat × List Bool) => ((sum + d) :: p.1, p.2)) = _
  rw [h]; simp only; rw [if_neg h2]
/-- the loop, so far: l are the numbers read, k are left -/
def ValInv (n : Nat) (S0 : List Bool) (l : List Nat) (k sum : Nat) (s : List Bool) : Prop := valLoop n n 0 S0 = (valLoop n k sum s).map fun (p : List Nat × List Bool) => (l ++ p.1, p.2)
theorem ValInv.start (n : Nat) (S0 : List Bool) : ValInv n S0 [] n 0 S0 := by
  unfold ValInv
  cases valLoop n n 0 S0 <;> simp
theorem ValInv.step {n : Nat} {S0 : List Bool} {l : List Nat} {k sum d : Nat} {s s' : List Bool} (h : ValInv n S0 l (k + 1) sum s) (h1 : riceO 19 (2 * n) s = some (d, s')) (h2 : ¬ n * 784931 ≤ sum + d) : ValInv n S0 (l ++ [sum + d]) k (sum + d) s' := by
  unfold ValInv at *
  rw [h, valLoop_step h1 h2, Option.map_map]
  congr 1
  funext p
  simp
theorem valOf_take (s : List Bool) (n : Nat) (h : s.length ≤ n) : valOf (s.take n) = valOf s := by rw [List.take_of_length_le h]
theorem rice_small {C most d : Nat} {s s' : List Bool} (h : riceO C most s = some (d, s')) : d < (most + 1) * 2 ^ C := by
  obtain ⟨q, t, _, hq, hC, rfl, _⟩ := riceO_some h
  have h1 := valOf_lt (t.take C)
  rw [List.length_take, Nat.min_eq_left hC] at h1
  have h2 : q * 2 ^ C ≤ most * 2 ^ C := Nat.mul_le_mul_right _ hq
  rw [Nat.add_mul, Nat.one_mul]
  omega
theorem vriceA (r : Nat) (s : List Bool) (most : Nat) (w : World) (h : RdAt w r s) (hm : most ≤ 1000000) :
    Calls Try.prog 50 #[.pointer (some ⟨r, 0, none⟩), .int .i64 19, .int .u64 (most : Int)] w fun e w' => Keep (fun k => k = r) w w' ∧ match riceO 19 most s with
      | none => ∃ x : Int, (x = 50 ∨ x = 51) ∧ e = .returned (.tuple #[.int .u64 0, .int .i64 x])
      | some (d, s') => e = .returned (.tuple #[.int .u64 (d : Int), .int .i64 0]) ∧ RdAt w' r s' := by
  cases hr : riceO 19 most s with
  | none =>
    obtain ⟨q, T, rfl, hq, hf⟩ := riceO_none hr
    exact (vriceF r q 19 most T w h hq (by omega) (by decide) hf).mono fun e w' ⟨x, hx, he, hk⟩ => ⟨hk, x, hx, he⟩
  | some p =>
    obtain ⟨d, s'⟩ := p
    obtain ⟨q, t, rfl, hq, hC, rfl, rfl⟩ := riceO_some hr
    exact (vrice r q 19 most t w h hq (by omega) (by decide) hC (by
      have : q * 2 ^ 19 ≤ 1000000 * 2 ^ 19 := Nat.mul_le_mul_right _ (by omega)
      omega)).mono fun e w' ⟨he, h1, hk⟩ => ⟨hk, he, h1⟩
theorem wriceA (r : Nat) (s : List Bool) (most : Nat) (w : World) (h : RfAt w r s) (hm : most ≤ 1000000) :
    Calls Try.prog 56 #[.pointer (some ⟨r, 0, none⟩), .int .i64 19, .int .u64 (most : Int)] w fun e w' => Keep (fun k => k = r) w w' ∧ match riceO 19 most s with
      | none => ∃ x : Int, (x = 50 ∨ x = 51) ∧ e = .returned (.tuple #[.int .u64 0, .int .i64 x])
      | some (d, s') => e = .returned (.tuple #[.int .u64 (d : Int), .int .i64 0]) ∧ RfAt w' r s' := by
  cases hr : riceO 19 most s with
  | none =>
    obtain ⟨q, T, rfl, hq, hf⟩ := riceO_none hr
    exact (wriceF r q 19 most T w h hq (by omega) (by decide) hf).mono fun e w' ⟨x, hx, he, hk⟩ => ⟨hk, x, hx, he⟩
  | some p =>
    obtain ⟨d, s'⟩ := p
    obtain ⟨q, t, rfl, hq, hC, rfl, rfl⟩ := riceO_some hr
    exact (wrice r q 19 most t w h hq (by omega) (by decide) hC (by
      have : q * 2 ^ 19 ≤ 1000000 * 2 ^ 19 := Nat.mul_le_mul_right _ (by omega)
      omega)).mono fun e w' ⟨he, h1, hk⟩ => ⟨hk, he, h1⟩
end Go.Proofs.Ytppcccocnmhbgaa
