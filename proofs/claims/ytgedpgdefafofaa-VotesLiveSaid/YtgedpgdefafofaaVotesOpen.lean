/- Opening a slice of Do's (layer 18). -/
import Derived.Test.YtgedpgdefafofaaHashTrod
import Derived.Test.YtgedpgdefafofaaVotesA
namespace Go.Proofs.Ytgedpgdefafofaa
open Go Go.ChangeShapes Go.WideShapes Go.ChangeAt Go.RowKit
set_option linter.unusedVariables false

abbrev VDo := Int × Nat × Bool
/-- the cells of a Do -/
def do1 (d : VDo) : List Value := .int .i64 d.1 :: (hls d.2.1 ++ [.bool d.2.2])
theorem do1_length (d : VDo) : (do1 d).length = 34 := by simp [do1, hls_length]
theorem do1_one (d : VDo) : (do1 d).toArray.all (·.oneCell') = true := by
  rw [Array.all_eq_true_iff_forall_mem]
  intro u hu
  simp only [do1, List.mem_toArray, List.mem_cons, List.mem_append, List.not_mem_nil, or_false] at hu
  rcases hu with rfl | hu | rfl
  · rfl
  · exact (Array.all_eq_true_iff_forall_mem.1 (hcs_one d.2.1)) u (by simpa [hcs] using hu)
  · rfl
def VDo.ok (d : VDo) : Prop := (Lit.int .i64 d.1).wf = true ∧ d.2.1 < W256
/-- the Do's, in memory -/
def DosIn (w : World) (a0 : Option Addr) (len : Nat) (D : Nat → VDo) : Prop :=
  ∀ r, r < len → ∃ b o, a0 = some ⟨b, o, none⟩ ∧ w.rangeAt b (o + r * 34) (do1 (D r)) ∧ (D r).ok ∧ b < w.heap.size
theorem DosIn.below {w w' : World} {a0 : Option Addr} {len : Nat} {D : Nat → VDo} (h : DosIn w a0 len D) (hb : Below w.heap.size w w') : DosIn w' a0 len D := fun r hr => by
  obtain ⟨b, o, h0, h1, h2, h3⟩ := h r hr
  exact ⟨b, o, h0, fun j v hv => (hb.cell (p := ⟨b, _, none⟩) h3).trans (h1 j v hv), h2, Nat.lt_of_lt_of_le h3 hb.size⟩
set_option maxHeartbeats 1600000 in
theorem open_vdos {H : Type} {enc : TypeId × Value → H} {w : World} {b0 : Nat} {r : Reach} {v : Value} {d : DataW H} {p : List MemPlace}
    (hv : Value.okWide Try.prog w r b0 22 v) (h : DataW.Trod enc Try.prog w 0 (fun _ => true) true 22 v d p) :
    ∃ a0 len cap D, v = .slice a0 len cap ∧ len ≤ cap ∧ cap ≤ 9223372036854775807 ∧ DosIn w a0 len D := by
  obtain ⟨a0, len, cap, rfl⟩ := okWide_slice Try.underlying22 hv
  obtain ⟨fuel, hf⟩ := h
  rcases Go.Deep.open_slice Try.underlying22 hf with ⟨hcs, _⟩ | ⟨a, len', cap', m, n, D, Pl, hcs, _, hl, hm, hmm, hx, hi⟩
  · simp [Value.cells] at hcs
    obtain ⟨rfl, rfl, rfl⟩ := hcs
    exact ⟨_, _, _, fun _ => (0, 0, false), rfl, by decide, by decide, fun r hr => by omega⟩
  · simp [Value.cells] at hcs
    obtain ⟨rfl, rfl, rfl⟩ := hcs
    simp only [if_true] at hmm
    rw [show Try.prog.cellsOf 29 = 34 from by kernel_rfl] at hi
    have each : ∀ i, i < len → ∃ y : VDo, (∀ j, j < 34 → w.cell? ((a.add (i * 34)).add j) = (do1 y)[j]?) ∧ y.ok := by
      intro i hlt
      obtain ⟨cs', hc, ht'⟩ := hi i (by omega)
      obtain ⟨y0, y1, y2, n', hy, hcl, h0, h1, h2⟩ := Go.Deep.trod_struct3 Try.underlying29 ht'
      obtain ⟨_, hcl', hat⟩ := World.cells?_some hc
      have k0 : Try.prog.cellsOf 3 = 1 := by kernel_rfl
      have k1 : Try.prog.cellsOf 26 = 32 := by kernel_rfl
      have k2 : Try.prog.cellsOf 4 = 1 := by kernel_rfl
      have g0 : DataW.trod enc Try.prog w 0 (fun _ => true) true n' 3 ((cs'.drop 0).take 1) = some y0 := by simpa [k0] using h0
      have g1 : DataW.trod enc Try.prog w 0 (fun _ => true) true n' 26 ((cs'.drop 1).take 32) = some y1 := by simpa [k1] using h1
      have g2 : DataW.trod enc Try.prog w 0 (fun _ => true) true n' 4 ((cs'.drop 33).take 1) = some y2 := by simpa [k2] using h2
      obtain ⟨z0, e0, w0⟩ := trod_i64 g0
      obtain ⟨z1, w1, e1⟩ := trod_hash g1
      obtain ⟨z2, e2, _⟩ := DataW.trod_bool Try.underlying4 g2
      refine ⟨(z0, z1, z2), fun j hj => ?_, w0, w1⟩
      rw [hat j (by omega)]
      have e : cs' = do1 (z0, z1, z2) := by
        rw [← List.take_append_drop 1 cs', show cs'.take 1 = (cs'.drop 0).take 1 from rfl, e0]
        rw [← List.take_append_drop 32 (cs'.drop 1), e1, List.drop_drop, show cs'.drop (1 + 32) = (cs'.drop 33).take 1 from by
          rw [List.take_of_length_le (by rw [List.length_drop]; omega)], e2]
        rfl
      rw [e]
    obtain ⟨y, hy⟩ := Go.Deep.choose_lt each
    obtain ⟨b, o, s⟩ := a
    refine ⟨some ⟨b, o, s⟩, len, cap, y, rfl, by omega, by unfold maxLen at hm; omega, fun i hlt => ?_⟩
    obtain ⟨r0, r1⟩ := hy i hlt
    have c00 : w.cell? (((⟨b, o, s⟩ : Addr).add (0 * 34)).add 0) = some (.int .i64 (y 0).1) := (hy 0 (by omega)).1 0 (by omega)
    obtain rfl : s = none := by simpa [Addr.add] using World.cell?_spot c00
    have c0 : w.cell? (((⟨b, o, none⟩ : Addr).add (i * 34)).add 0) = some (.int .i64 (y i).1) := r0 0 (by omega)
    refine ⟨b, o, rfl, fun j v hv => ?_, r1, ?_⟩
    · have hj : j < 34 := by have := (List.getElem?_eq_some_iff.1 hv).1; rwa [do1_length] at this
      have := r0 j hj
      rw [Addr.add_lit, Addr.add_lit] at this
      rw [this, hv]
    · rw [Addr.add_lit, Addr.add_lit] at c0
      exact cell_lt c0
end Go.Proofs.Ytgedpgdefafofaa
