/- Opening a law's arguments: bytes, and slices of them. -/
import Derived.Test.YtfeljjbelnlojaaOpenBase
import Derived.Test.YtfeljjbelnlojaaTapeFull
import Derived.Deep.Matrix
import Derived.Lib.SlBytesRowKit
namespace Go.Proofs.Ytfeljjbelnlojaa
open Go.ChangeShapes Go.WideShapes Go.ChangeAt Go.RowKit

theorem open_brows {H : Type} {enc : TypeId × Value → H} {w : World} {base b0 : Nat} {r : Reach} {v : Value} {d : DataW H} {p : List MemPlace}
    (hv : Value.okWide Try.prog w r b0 22 v) (h : DataW.Trod enc Try.prog w base (fun _ => true) true 22 v d p) :
    ∃ a0 len cap A C Z, v = .slice a0 len cap ∧ len ≤ 9223372036854775807 ∧ RowsIn w a0 len A C Z := by
  obtain ⟨a0, len, cap, rfl⟩ := okWide_slice Try.underlying22 hv
  obtain ⟨fuel, hf⟩ := h
  rcases Go.Deep.open_int_rows Try.underlying22 Try.underlying28 Try.underlying5 (by kernel_rfl) (by kernel_rfl) hf with ⟨hcs, _⟩ | ⟨a, len', cap', A, L, C, Z, hcs, _, hl, hm, _, hr⟩
  · simp [Value.cells] at hcs
    obtain ⟨rfl, rfl, rfl⟩ := hcs
    exact ⟨_, _, _, fun _ => none, fun _ => 0, fun _ => [], rfl, by decide, fun r hr => by omega⟩
  · simp [Value.cells] at hcs
    obtain ⟨rfl, rfl, rfl⟩ := hcs
    unfold maxLen at hm
    refine ⟨some a, len, cap, A, C, fun r => (Z r).take (L r), rfl, by omega, fun r hlt => ?_⟩
    obtain ⟨h1, h2, h3, h4, h5, h6, h7⟩ := hr r (by omega)
    unfold maxLen at h3
    have hlen : ((Z r).take (L r)).length = L r := by simp; omega
    obtain ⟨b, o, s⟩ := a
    obtain rfl : s = none := by simpa [Addr.add] using World.cell?_spot (hr 0 (by omega)).1
    refine ⟨b, o, rfl, by rw [hlen, ← Addr.add_lit]; exact h1, ?_, by show ((Z r).take (L r)).length ≤ _; omega⟩
    rw [hlen]
    cases hA : A r with
    | none =>
      rw [show L r = 0 from by have := h6 hA; omega]
      exact Lib.BytesIn.nil _ _ _
    | some a' =>
      refine Lib.BytesIn.of_cells fun i hi => ?_
      rw [(h7 a' hA).2 i (by omega)]
      congr 2
      simp [List.getD, hi]
/-- an argument of bytes -/
theorem open_bytes {H : Type} {enc : TypeId × Value → H} {w : World} {b0 : Nat} {r : Reach} {v : Value} {d : DataW H} {p : List MemPlace}
    (hv : Value.okWide Try.prog w r b0 28 v) (h : DataW.Trod enc Try.prog w 0 (fun _ => true) true 28 v d p) :
    ∃ a0 cap xs, v = .slice a0 (List.length xs) cap ∧ xs.length ≤ 9223372036854775807 ∧ Lib.BytesIn w a0 xs.length xs ∧ xs.length ≤ cap ∧ cap ≤ 9223372036854775807 ∧ (∀ x ∈ xs, 0 ≤ x ∧ x < 256) ∧ (a0 = none → cap = 0) := by
  obtain ⟨a0, len, cap, rfl⟩ := okWide_slice Try.underlying28 hv
  have h' := h
  obtain ⟨xs, rfl, h2, h3, _, h5, h6⟩ := opened_bytes Try.underlying28 Try.underlying5 (by kernel_rfl) h
  have hc : cap ≤ 9223372036854775807 := by
    obtain ⟨fuel, hf⟩ := h'
    rcases open_ints Try.underlying28 Try.underlying5 (by kernel_rfl) hf with ⟨hcs, _⟩ | ⟨a, len', cap', zs, hcs, _, hl, hm, _⟩
    · simp [Value.cells] at hcs; omega
    · simp [Value.cells] at hcs
      obtain ⟨rfl, rfl, rfl⟩ := hcs
      unfold maxLen at hm; omega
  exact ⟨a0, cap, xs, rfl, by omega, h3, h2, hc, h5, h6⟩
/-- the law TapeFull, for every input -/
theorem full_any (room : Int) (a0 : Option Addr) (len cap : Nat) (A : Nat → Option Addr) (C : Nat → Nat) (Z : Nat → List Int) (w : World) (hlen : len ≤ 9223372036854775807) (hR : RowsIn w a0 len A C Z) :
    Calls Try.prog 3 #[.int .i64 room, .slice a0 len cap] w fun e w' => e = .returned (.bool true) ∧ Below w.heap.size w w' := by
  refine full_walk room _ a0 len cap A C Z w rfl ?_ hlen hR
  rw [IntKind.wrap_u64, Int.tmod_eq_emod_of_nonneg (by omega)]
  unfold wrap64; omega
end Go.Proofs.Ytfeljjbelnlojaa
