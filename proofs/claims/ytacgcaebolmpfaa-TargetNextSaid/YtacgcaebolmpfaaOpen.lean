/- Opening a law's arguments: arrays of integers by value, api.Wide. -/
import Derived.Test.YtacgcaebolmpfaaRows
import Derived.Test.YtacgcaebolmpfaaWideBase
import Derived.ProofKit
import Derived.OpenShut
import Derived.ShutString
namespace Go.Proofs.Ytacgcaebolmpfaa
open Go.ChangeShapes Go.WideShapes Go.ChangeAt Go.RowKit

theorem Try.own : ownKnob Try.prog.godebug = none := by kernel_rfl
theorem Try.laidOut : laidOutB Try.prog = true := by kernel_rfl

section
variable {H : Type} {enc : TypeId × Value → H} {P : Program} {w : World} {base : Nat} {spare : Nat → Bool} {held : Bool}
/-- AN ARRAY OF INTEGERS BY VALUE -/
theorem open_arr {r : Reach} {b0 : Nat} {t e : TypeId} {n : Nat} {k : IntKind} {v : Value} {d : DataW H} {p : List MemPlace} (ht : P.underlying t = some (.array n e)) (he : P.underlying e = some (.int k))
    (hce : P.cellsOf e = 1) (hct : P.cellsOf t = n) (hv : Value.okWide P w r b0 t v) (h : DataW.Trod enc P w base spare held t v d p) :
    ∃ f : Nat → Int, v = .agg ((List.range n).map fun i => .int k (f i)).toArray ∧ ∀ i, i < n → (Lit.int k (f i)).wf = true := by
  obtain ⟨cs, rfl, hs, _⟩ : ∃ cs, v = .agg cs ∧ cs.size = P.cellsOf t ∧ Row.okWide P w r b0 t cs := by
    unfold Value.okWide at hv; rw [ht] at hv; exact hv
  obtain ⟨fuel, hf⟩ := h
  obtain ⟨xs, m, _, _, hl, hx, hi⟩ := DataW.trod_array ht hf
  rw [hce] at hi
  rw [hct] at hs
  have key : ∀ i, i < n → ∃ z, cs[i]? = some (.int k z) ∧ (Lit.int k z).wf = true := by
    intro i hlt
    have h1 := hi i hlt
    rw [Nat.mul_one] at h1
    obtain ⟨x, hxi⟩ : ∃ x, xs[i]? = some x := ⟨xs[i]'(by omega), List.getElem?_eq_getElem (by omega)⟩
    rw [hxi] at h1
    have hc : cs[i]? = some (cs[i]'(by omega)) := Array.getElem?_eq_getElem (by omega)
    have h2 : ((Value.agg cs).cells.toList.drop i).take 1 = [cs[i]'(by omega)] := by
      simp [Value.cells, List.take_one, hc]
    rw [h2] at h1
    obtain ⟨z, e0, _, wz⟩ := DataW.trod_int he h1
    refine ⟨z, ?_, wz⟩
    rw [hc]
    simp at e0
    rw [e0]
  refine ⟨fun i => match cs[i]? with | some (.int _ z) => z | _ => 0, ?_, ?_⟩
  · congr 1
    apply Array.ext
    · simp [hs]
    · intro i h1 h2
      obtain ⟨z, hz, _⟩ := key i (by omega)
      simp [hz]
      rw [Array.getElem?_eq_getElem h1] at hz
      exact Option.some.inj hz
  · intro i hlt
    obtain ⟨z, hz, wz⟩ := key i hlt
    simpa [hz] using wz
end

/-- four words are a number -/
theorem wide_of (f : Nat → Int) (h : ∀ i, i < 4 → (Lit.int .u64 (f i)).wf = true) : ∃ n, n < W256 ∧ Value.agg ((List.range 4).map fun i => .int .u64 (f i)).toArray = wv n := by
  have b : ∀ i, i < 4 → 0 ≤ f i ∧ f i ≤ 18446744073709551615 := fun i hi => bounds_u64 (h i hi)
  obtain ⟨a0, b0⟩ := b 0 (by decide)
  obtain ⟨a1, b1⟩ := b 1 (by decide)
  obtain ⟨a2, b2⟩ := b 2 (by decide)
  obtain ⟨a3, b3⟩ := b 3 (by decide)
  have e : List.range 4 = [0, 1, 2, 3] := rfl
  refine ⟨(f 0).toNat + 2 ^ 64 * (f 1).toNat + 2 ^ 128 * (f 2).toNat + 2 ^ 192 * (f 3).toNat, by rw [W256_eq]; omega, ?_⟩
  rw [e]
  simp only [List.map_cons, List.map_nil]
  have w0 : f 0 = wd ((f 0).toNat + 2 ^ 64 * (f 1).toNat + 2 ^ 128 * (f 2).toNat + 2 ^ 192 * (f 3).toNat) 0 := by unfold wd; omega
  have w1 : f 1 = wd ((f 0).toNat + 2 ^ 64 * (f 1).toNat + 2 ^ 128 * (f 2).toNat + 2 ^ 192 * (f 3).toNat) 1 := by unfold wd; omega
  have w2 : f 2 = wd ((f 0).toNat + 2 ^ 64 * (f 1).toNat + 2 ^ 128 * (f 2).toNat + 2 ^ 192 * (f 3).toNat) 2 := by unfold wd; omega
  have w3 : f 3 = wd ((f 0).toNat + 2 ^ 64 * (f 1).toNat + 2 ^ 128 * (f 2).toNat + 2 ^ 192 * (f 3).toNat) 3 := by unfold wd; omega
  unfold wv
  rw [← w0, ← w1, ← w2, ← w3]
theorem open_wide {H : Type} {enc : TypeId × Value → H} {w : World} {base b0 : Nat} {spare : Nat → Bool} {held : Bool} {r : Reach} {v : Value} {d : DataW H} {p : List MemPlace}
    (hv : Value.okWide Try.prog w r b0 25 v) (h : DataW.Trod enc Try.prog w base spare held 25 v d p) : ∃ n, n < W256 ∧ v = wv n := by
  obtain ⟨f, rfl, hw⟩ := open_arr (n := 4) (k := .u64) Try.underlying25 Try.underlying23 (by kernel_rfl) (by kernel_rfl) hv h
  exact wide_of f hw
end Go.Proofs.Ytacgcaebolmpfaa
