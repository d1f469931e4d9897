/- bytes.Clone; words in a slice; how many numbers a filter has. -/
import Derived.Test.YtppcccocnmhbgaaValues
import Derived.Test.YtppcccocnmhbgaaTwo
import Derived.Test.YtppcccocnmhbgaaOpenBytes
namespace Go.Proofs.Ytppcccocnmhbgaa
open Go Go.RowKit
set_option linter.unusedSimpArgs false
set_option linter.unusedVariables false
set_option maxRecDepth 100000

/-- bytes.Clone of bytes -/
theorem bclone (q : Option Addr) (c : Nat) (xs : List Int) (w : World) (hy : Lib.BytesIn w q xs.length xs) (hl : xs.length ≤ 140737488355328) (hz : q = none → c = 0) (hc : xs.length ≤ c) :
    Calls Try.prog 26 #[.slice q xs.length c] w fun e w' => ∃ p c' o, e = .returned (.slice p xs.length c') ∧ Row w' 5 (.slice p xs.length c') xs o ∧ (∀ g, o = some g → w.heap.size ≤ g) ∧ Below w.heap.size w w' := by
  cases q with
  | none =>
    obtain rfl := hz rfl
    obtain rfl : xs = [] := List.eq_nil_of_length_eq_zero (by omega)
    exact (Try.bytes_Clone_nil 0 0 w).mono fun e w' ⟨h1, h2⟩ => ⟨none, 0, none, h1, Row.nil _ _, fun g hg => (by cases hg), by rw [h2]; exact Below.refl _ _⟩
  | some a =>
    refine (Try.bytes_Clone_at a xs.length c xs w rfl hl (fun i hi => by
      obtain ⟨b, o2, e1, hc⟩ := hy.at (by omega)
      cases e1
      rw [Addr.add_lit]; exact hc i hi)).mono ?_
    rintro e w1 ⟨v', rfl, hown, hne, hbel⟩
    obtain ⟨o', r1, r2, r3⟩ := Row.of_owns hown
    obtain ⟨q', c', rfl, _⟩ := r1.form
    exact ⟨q', c', o', rfl, r1, fun g hg => (r2 g hg).1, hbel⟩
/-- words in a slice -/
def U64In (w : World) (q : Option Addr) (l : List Nat) : Prop := ∀ i, i < l.length → ∃ g, q = some ⟨g, 0, none⟩ ∧ w.cell? ⟨g, i, none⟩ = some (.int .u64 (l.getD i 0 : Nat))
theorem u64s_get (l : List Nat) (i : Nat) (h : i < l.length) : (u64s l)[i]? = some (.int .u64 (l.getD i 0 : Nat)) := by simp [u64s, List.getD, h]
theorem U64In.of_row {w : World} {v : Value} {l : List Nat} {o : Option Nat} (h : RowV w 52 1 v l.length (u64s l) o) : ∃ q c, v = .slice q l.length c ∧ U64In w q l := by
  obtain ⟨q, c, rfl, _⟩ := h.form
  refine ⟨q, c, rfl, fun i hi => ?_⟩
  obtain ⟨g, cap, _, e, _, _, _, hc, _⟩ := h.mem (by omega)
  injection e with e1
  refine ⟨g, e1, ?_⟩
  rw [hc i (by omega), u64s_get l i hi]
theorem U64In.below {w w' : World} {q : Option Addr} {l : List Nat} (h : U64In w q l) (hb : Below w.heap.size w w') : U64In w' q l := fun i hi => by
  obtain ⟨g, h1, h2⟩ := h i hi
  exact ⟨g, h1, (hb.cell (p := ⟨g, i, none⟩) (cell_lt h2)).trans h2⟩
theorem valLoop_len {n : Nat} : ∀ {k sum : Nat} {s s' : List Bool} {l : List Nat}, valLoop n k sum s = some (l, s') → l.length = k
  | 0, sum, s, s', l, h => by
    unfold valLoop at h; cases h; rfl
  | k + 1, sum, s, s', l, h => by
    cases hro : riceO 19 (2 * n) s with
    | none => rw [valLoop_none hro] at h; cases h
    | some ds =>
      obtain ⟨d, s2⟩ := ds
      by_cases hov : n * 784931 ≤ sum + d
      · rw [valLoop_over hro hov] at h; cases h
      · rw [valLoop_step hro hov] at h
        cases hv : valLoop n k (sum + d) s2 with
        | none => rw [hv] at h; cases h
        | some p =>
          rw [hv] at h
          obtain ⟨l2, s3⟩ := p
          cases h
          show l2.length + 1 = k + 1
          rw [valLoop_len hv]
theorem valuesS_len {bs : List Int} {l : List Nat} (h : valuesS bs = some l) : l.length ≤ 20000 := by
  unfold valuesS at h
  by_cases h0 : decE bs ≠ 0 ∨ 20000 < decN bs
  · rw [if_pos h0] at h; cases h
  · rw [if_neg h0] at h
    cases hv : valLoop (decN bs) (decN bs) 0 (unpack (decR bs)) with
    | none => rw [hv] at h; cases h
    | some p =>
      obtain ⟨l2, s⟩ := p
      rw [hv] at h
      simp only at h
      by_cases h7 : 7 < s.length
      · rw [if_pos h7] at h; cases h
      · rw [if_neg h7] at h
        by_cases hx : valOf s ≠ 0
        · rw [if_pos hx] at h; cases h
        · rw [if_neg hx] at h
          cases h
          have := valLoop_len hv
          omega
end Go.Proofs.Ytppcccocnmhbgaa
