/- A hash among other cells, read as data. -/
import Derived.Test.YtgedpgdefafofaaDoorOpenBase
import Derived.Test.YtgedpgdefafofaaDoorHashE
import Derived.Deep.Slices
import Derived.Deep.Strs
namespace Go.Proofs.YtgedpgdefafofaaDoor
open Go Go.ChangeShapes Go.WideShapes Go.ChangeAt Go.RowKit
set_option linter.unusedVariables false
set_option maxRecDepth 100000

section
variable {H : Type} {enc : TypeId × Value → H} {w : World} {base : Nat} {spare : Nat → Bool} {held : Bool}
theorem trod_hash {fuel : Nat} {cs : List Value} {x : DataW H × List MemPlace} (h : DataW.trod enc Tryd.prog w base spare held fuel 24 cs = some x) : ∃ n, n < W256 ∧ cs = hls n := by
  obtain ⟨xs, m, _, _, hl, hx, hi⟩ := DataW.trod_array Tryd.underlying24 h
  rw [show Tryd.prog.cellsOf 5 = 1 from by kernel_rfl] at hi
  rw [show Tryd.prog.cellsOf 24 = 32 from by kernel_rfl] at hl
  have key : ∀ i, i < 32 → ∃ z, cs[i]? = some (.int .u8 z) ∧ (Lit.int .u8 z).wf = true := by
    intro i hlt
    have h1 := hi i hlt
    rw [Nat.mul_one] at h1
    obtain ⟨y, hyi⟩ : ∃ y, xs[i]? = some y := ⟨xs[i]'(by omega), List.getElem?_eq_getElem (by omega)⟩
    rw [hyi] at h1
    have hc : cs[i]? = some (cs[i]'(by omega)) := List.getElem?_eq_getElem (by omega)
    have h2 : (cs.drop i).take 1 = [cs[i]'(by omega)] := by
      rw [List.drop_eq_getElem_cons (by omega)]; rfl
    rw [h2] at h1
    obtain ⟨z, e0, _, wz⟩ := DataW.trod_int Tryd.underlying5 h1
    refine ⟨z, ?_, wz⟩
    rw [hc]
    simp at e0
    rw [e0]
  obtain ⟨f, hf⟩ := Go.Deep.choose_lt key
  have b : ∀ i, i < 32 → 0 ≤ f i ∧ f i ≤ 255 := fun i hi => by first | exact bounds_u8 (hf i hi).2 | (have := (hf i hi).2; simp [Lit.wf, IntKind.min, IntKind.max] at this; omega)
  refine ⟨hnum f 32, hnum_lt f 32 b, ?_⟩
  rw [← hls_of f b]
  apply List.ext_getElem?
  intro i
  by_cases h32 : i < 32
  · rw [(hf i h32).1]; simp [h32]
  · rw [List.getElem?_eq_none (by omega), List.getElem?_eq_none (by simp; omega)]
theorem trod_i64 {fuel : Nat} {cs : List Value} {x : DataW H × List MemPlace} (h : DataW.trod enc Tryd.prog w base spare held fuel 3 cs = some x) : ∃ z, cs = [.int .i64 z] ∧ (Lit.int .i64 z).wf = true := by
  obtain ⟨z, e0, _, wz⟩ := DataW.trod_int Tryd.underlying3 h
  exact ⟨z, e0, wz⟩
end
end Go.Proofs.YtgedpgdefafofaaDoor
