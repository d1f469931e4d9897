/- An argument of bytes, its length bounded by what it weighs. -/
import Derived.Test.YtppcccocnmhbgaaOpenBase
import Derived.Test.YtppcccocnmhbgaaMem
import Derived.SizedLaws
namespace Go.Proofs.Ytppcccocnmhbgaa
open Go Go.ChangeShapes Go.WideShapes Go.ChangeAt Go.RowKit
set_option linter.unusedVariables false

set_option maxRecDepth 100000
theorem bytesU : Try.prog.bytesOf 5 = 1 := by kernel_rfl
theorem open_bytesS {H : Type} {enc : TypeId × Value → H} {w : World} {b0 : Nat} {r : Reach} {v : Value} {d : DataW H} {p : List MemPlace} {ts : List TypeId} {ds : List (DataW H)} {jj : Nat}
    (hv : Value.okWide Try.prog w r b0 26 v) (h : DataW.Trod enc Try.prog w 0 (fun _ => true) true 26 v d p)
    (hsz : (DataW.weightsEach Try.prog ts ds).all (· ≤ reachBytes) = true) (ht : ts[jj]? = some 26) (hd : ds[jj]? = some d) :
    ∃ a0 cap xs, v = .slice a0 (List.length xs) cap ∧ xs.length ≤ 140737488351232 ∧ Lib.BytesIn w a0 xs.length xs ∧ xs.length ≤ cap ∧ (∀ x ∈ xs, 0 ≤ x ∧ x ≤ 255) ∧ (∀ q, a0 = some q → 0 < xs.length → q.block < w.heap.size) ∧ (a0 = none → cap = 0) ∧ cap ≤ 140737488351232 := by
  obtain ⟨a0, len, cap, rfl⟩ := okWide_slice Try.underlying26 hv
  obtain ⟨fuel, hf⟩ := h
  rcases open_ints Try.underlying26 Try.underlying5 (by kernel_rfl) hf with ⟨hcs, _⟩ | ⟨a, len', cap', zs, hcs, hlc, hl, hm, hz, hy, hcell, hwz⟩
  · simp [Value.cells] at hcs
    obtain ⟨rfl, rfl, rfl⟩ := hcs
    exact ⟨none, 0, [], rfl, by decide, Lib.BytesIn.nil _ _ _, by decide, fun x hx => (by simp at hx), fun q hq => (by cases hq), fun _ => rfl, by decide⟩
  · simp [Value.cells] at hcs
    obtain ⟨rfl, rfl, rfl⟩ := hcs
    simp only [if_true] at hz
    have hln : (zs.take len).length = len := by simp; omega
    have hcap : cap ≤ 140737488351232 := by
      simp only [Prod.mk.injEq] at hy
      have hw := of_decide_eq_true (List.all_eq_true.1 hsz _ (DataW.weights_mem_each ht hd cap (by
        rw [hy.1]
        simp [DataW.weights, Try.underlying26, lits, bytesU, hz]
        omega)))
      simpa [reachBytes] using hw
    have hcells : ∀ i, i < len → w.cell? (a.add i) = some (.int .u8 ((zs.take len).getD i 0)) := fun i hi => by
      rw [hcell i (by omega)]
      congr 2
      simp [List.getD, hi]
    refine ⟨some a, cap, zs.take len, by rw [hln], by rw [hln]; omega, ?_, by rw [hln]; omega, fun x hx => ?_, fun q hq h0 => ?_, fun hq => (by cases hq), hcap⟩
    · refine Lib.BytesIn.of_cells fun i hi => ?_
      rw [hln] at hi
      exact hcells i hi
    · exact bounds_u8 (hwz x (List.mem_of_mem_take hx))
    · cases hq
      rw [hln] at h0
      have := cell_lt (hcells 0 h0)
      have hb : (a.add 0).block = a.block := by unfold Addr.add; split <;> rfl
      rw [hb] at this; exact this
end Go.Proofs.Ytppcccocnmhbgaa
