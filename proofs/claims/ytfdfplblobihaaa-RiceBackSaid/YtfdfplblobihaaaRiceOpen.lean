/- Opening a slice of Do's (layer 11): three numbers each. -/
import Derived.Test.YtfdfplblobihaaaOpenBase
import Derived.Test.YtfdfplblobihaaaMem
import Derived.SizedLaws
import Derived.Deep.Slices
import Derived.Deep.Strs
namespace Go.Proofs.Ytfdfplblobihaaa
open Go Go.ChangeShapes Go.WideShapes Go.ChangeAt Go.RowKit
set_option linter.unusedVariables false

/-- the Do's, in memory: Op, Count, N -/
def DosIn (w : World) (a0 : Option Addr) (len : Nat) (O C : Nat → Int) (N : Nat → Nat) : Prop :=
  ∀ r, r < len → ∃ b o, a0 = some ⟨b, o, none⟩ ∧ w.cell? ⟨b, o + r * 3, none⟩ = some (.int .i64 (O r)) ∧ w.cell? ⟨b, o + r * 3 + 1, none⟩ = some (.int .i64 (C r)) ∧ w.cell? ⟨b, o + r * 3 + 2, none⟩ = some (.int .u64 (N r : Int)) ∧ N r < 18446744073709551616 ∧ b < w.heap.size
theorem DosIn.below {w w' : World} {a0 : Option Addr} {len : Nat} {O C : Nat → Int} {N : Nat → Nat} (h : DosIn w a0 len O C N) (hb : Below w.heap.size w w') : DosIn w' a0 len O C N := fun r hr => by
  obtain ⟨b, o, h0, h1, h2, h3, h4, h5⟩ := h r hr
  exact ⟨b, o, h0, (hb.cell (p := ⟨b, _, none⟩) h5).trans h1, (hb.cell (p := ⟨b, _, none⟩) h5).trans h2, (hb.cell (p := ⟨b, _, none⟩) h5).trans h3, h4, Nat.lt_of_lt_of_le h5 hb.size⟩
set_option maxHeartbeats 1600000 in
theorem open_rdos {H : Type} {enc : TypeId × Value → H} {w : World} {b0 : Nat} {r : Reach} {v : Value} {d : DataW H} {p : List MemPlace}
    (hv : Value.okWide Try.prog w r b0 22 v) (h : DataW.Trod enc Try.prog w 0 (fun _ => true) true 22 v d p) :
    ∃ a0 len cap O C N, v = .slice a0 len cap ∧ len ≤ cap ∧ cap ≤ 9223372036854775807 ∧ DosIn w a0 len O C N := by
  obtain ⟨a0, len, cap, rfl⟩ := okWide_slice Try.underlying22 hv
  obtain ⟨fuel, hf⟩ := h
  rcases Go.Deep.open_slice Try.underlying22 hf with ⟨hcs, _⟩ | ⟨a, len', cap', m, n, D, Pl, hcs, _, hl, hm, hmm, hx, hi⟩
  · simp [Value.cells] at hcs
    obtain ⟨rfl, rfl, rfl⟩ := hcs
    exact ⟨_, _, _, fun _ => 0, fun _ => 0, fun _ => 0, rfl, by decide, by decide, fun r hr => by omega⟩
  · simp [Value.cells] at hcs
    obtain ⟨rfl, rfl, rfl⟩ := hcs
    simp only [if_true] at hmm
    rw [show Try.prog.cellsOf 31 = 3 from by kernel_rfl] at hi
    have each : ∀ i, i < len → ∃ y : Int × Int × Nat, w.cell? (a.add (i * 3)) = some (.int .i64 y.1) ∧ w.cell? (a.add (i * 3 + 1)) = some (.int .i64 y.2.1) ∧ w.cell? (a.add (i * 3 + 2)) = some (.int .u64 (y.2.2 : Int)) ∧ y.2.2 < 18446744073709551616 := by
      intro i hlt
      obtain ⟨cs', hc, ht'⟩ := hi i (by omega)
      obtain ⟨y0, y1, y2, n', hy, hcl, h0, h1, h2⟩ := Go.Deep.trod_struct3 Try.underlying31 ht'
      obtain ⟨_, hcl', hat⟩ := World.cells?_some hc
      obtain ⟨c0, c1, c2, rfl⟩ : ∃ c0 c1 c2, cs' = [c0, c1, c2] := by
        match cs', hcl' with
        | [c0, c1, c2], _ => exact ⟨c0, c1, c2, rfl⟩
      have k3 : Try.prog.cellsOf 3 = 1 := by kernel_rfl
      have kU : Try.prog.cellsOf 29 = 1 := by kernel_rfl
      have g0 : DataW.trod enc Try.prog w 0 (fun _ => true) true n' 3 [c0] = some y0 := by simpa [k3] using h0
      have g1 : DataW.trod enc Try.prog w 0 (fun _ => true) true n' 3 [c1] = some y1 := by simpa [k3] using h1
      have g2 : DataW.trod enc Try.prog w 0 (fun _ => true) true n' 29 [c2] = some y2 := by simpa [kU] using h2
      obtain ⟨z0, e0, _, w0⟩ := DataW.trod_int Try.underlying3 g0
      obtain ⟨z1, e1, _, w1⟩ := DataW.trod_int Try.underlying3 g1
      obtain ⟨z2, e2, _, w2⟩ := DataW.trod_int Try.underlying29 g2
      simp at e0 e1 e2
      subst e0 e1 e2
      have a0 := hat 0 (by omega)
      have a1 := hat 1 (by omega)
      have a2 := hat 2 (by omega)
      rw [Go.Deep.add_add] at a0 a1 a2
      simp at a0 a1 a2
      have hz2 : 0 ≤ z2 ∧ z2 ≤ 18446744073709551615 := by first | exact bounds_u64 w2 | (have := w2; simp [Lit.wf, IntKind.min, IntKind.max] at this; omega)
      exact ⟨(z0, z1, z2.toNat), a0, a1, by rw [a2]; congr 2; show z2 = ((z2.toNat : Nat) : Int); omega, by show z2.toNat < _; omega⟩
    obtain ⟨y, hy⟩ := Go.Deep.choose_lt each
    obtain ⟨b, o, s⟩ := a
    refine ⟨some ⟨b, o, s⟩, len, cap, fun i => (y i).1, fun i => (y i).2.1, fun i => (y i).2.2, rfl, by omega, by unfold maxLen at hm; omega, fun i hlt => ?_⟩
    obtain ⟨r0, r1, r2, r3⟩ := hy i hlt
    obtain rfl : s = none := by simpa [Addr.add] using World.cell?_spot (hy 0 (by omega)).1
    rw [Addr.add_lit] at r0 r1 r2
    exact ⟨b, o, rfl, r0, by rw [Nat.add_assoc]; exact r1, by rw [Nat.add_assoc]; exact r2, r3, cell_lt r0⟩
end Go.Proofs.Ytfdfplblobihaaa
