/- The law TapeLives, for every input; opening a slice of Do's. -/
import Derived.Test.YtfeljjbelnlojaaTapeLives
import Derived.Test.YtfeljjbelnlojaaTapeOpen
import Derived.SizedLaws
import Derived.Deep.Slices
import Derived.Deep.Strs
namespace Go.Proofs.Ytfeljjbelnlojaa
open Go Go.ChangeShapes Go.WideShapes Go.ChangeAt Go.RowKit
set_option linter.unusedVariables false

theorem lives_any (q0 : Option Addr) (c0 : Nat) (xs : List Int) (room : Int) (a0 : Option Addr) (len cap : Nat) (O N : Nat → Int) (A : Nat → Option Addr) (C : Nat → Nat) (Z : Nat → List Int) (at' : Int) (W : World)
    (hx : Lib.BytesIn W q0 xs.length xs) (hlen : len ≤ 9223372036854775807) (hD : DosIn W a0 len O N A C Z) :
    Calls Try.prog 7 #[.slice q0 xs.length c0, .int .i64 room, .slice a0 len cap, .int .i64 at'] W fun e w' => e = .returned (.bool true) ∧ Below W.heap.size W w' := by
  by_cases hbad : room < 0 ∨ 16777216 < room ∨ room < xs.length
  · exact lives_bad q0 c0 xs.length room a0 len cap at' W hbad
  · exact lives_walk q0 c0 xs room a0 len cap O N A C Z at' W hx hD hlen (by omega) (by omega) (by omega)
theorem weightsAll_mem {H : Type} {P : Program} {e : TypeId} : ∀ {l : List (DataW H)} {d : DataW H}, d ∈ l → ∀ n ∈ d.weights P e, n ∈ DataW.weightsAll P e l
  | d' :: r, d, hd, n, hn => by
    simp only [DataW.weightsAll, List.mem_append]
    rcases List.mem_cons.1 hd with rfl | h
    · exact Or.inl hn
    · exact Or.inr (weightsAll_mem h n hn)
theorem Try.bytesU : Try.prog.bytesOf 5 = 1 := by kernel_rfl
/-- what a Do's bytes weigh -/
theorem do_weight {H : Type} {l0 l1 : DataW H} {e sp : List (DataW H)} : (e.length + sp.length) * 1 ∈ (DataW.agg [l0, l1, .slice e sp]).weights Try.prog 40 := by
  rw [← Try.bytesU]
  simp [DataW.weights, DataW.weightsEach, Try.underlying40, Try.underlying28]
set_option maxHeartbeats 1600000 in
theorem open_dos {H : Type} {enc : TypeId × Value → H} {w : World} {b0 : Nat} {r : Reach} {v : Value} {d : DataW H} {p : List MemPlace} {ts : List TypeId} {ds : List (DataW H)} {jj : Nat}
    (hv : Value.okWide Try.prog w r b0 47 v) (h : DataW.Trod enc Try.prog w 0 (fun _ => true) true 47 v d p)
    (hsz : (DataW.weightsEach Try.prog ts ds).all (· ≤ reachBytes) = true) (ht : ts[jj]? = some 47) (hd : ds[jj]? = some d) :
    ∃ a0 len cap O N A C Z, v = .slice a0 len cap ∧ len ≤ 9223372036854775807 ∧ DosIn w a0 len O N A C Z := by
  obtain ⟨a0, len, cap, rfl⟩ := okWide_slice Try.underlying47 hv
  obtain ⟨fuel, hf⟩ := h
  rcases Go.Deep.open_slice Try.underlying47 hf with ⟨hcs, _⟩ | ⟨a, len', cap', m, n, D, Pl, hcs, _, hl, hm, hmm, hx, hi⟩
  · simp [Value.cells] at hcs
    obtain ⟨rfl, rfl, rfl⟩ := hcs
    exact ⟨_, _, _, fun _ => 0, fun _ => 0, fun _ => none, fun _ => 0, fun _ => [], rfl, by decide, fun r hr => by omega⟩
  · simp [Value.cells] at hcs
    obtain ⟨rfl, rfl, rfl⟩ := hcs
    simp only [if_true] at hmm
    simp only [Prod.mk.injEq] at hx
    obtain ⟨rfl, _⟩ := hx
    rw [show Try.prog.cellsOf 40 = 3 from by kernel_rfl] at hi
    have each : ∀ i, i < len → ∃ y : Int × Int × Option Addr × Nat × List Int, w.cell? (a.add (i * 3)) = some (.int .i64 y.1) ∧ w.cell? (a.add (i * 3 + 1)) = some (.int .i64 y.2.1) ∧ w.cell? (a.add (i * 3 + 2)) = some (.slice y.2.2.1 y.2.2.2.2.length y.2.2.2.1) ∧
        Lib.BytesIn w y.2.2.1 y.2.2.2.2.length y.2.2.2.2 ∧ y.2.2.2.2.length ≤ 140737488355328 ∧ y.2.1 ≤ 9223372036854775807 := by
      intro i hlt
      obtain ⟨cs', hc, ht'⟩ := hi i (by omega)
      obtain ⟨y0, y1, y2, n', hy, hcl, h0, h1, h2⟩ := Go.Deep.trod_struct3 Try.underlying40 ht'
      obtain ⟨_, hcl', hat⟩ := World.cells?_some hc
      obtain ⟨c0, c1, c2, rfl⟩ : ∃ c0 c1 c2, cs' = [c0, c1, c2] := by
        match cs', hcl' with
        | [c0, c1, c2], _ => exact ⟨c0, c1, c2, rfl⟩
      have k3 : Try.prog.cellsOf 3 = 1 := by kernel_rfl
      have kS : Try.prog.cellsOf 28 = 1 := by kernel_rfl
      have g0 : DataW.trod enc Try.prog w 0 (fun _ => true) true n' 3 [c0] = some y0 := by simpa [k3] using h0
      have g1 : DataW.trod enc Try.prog w 0 (fun _ => true) true n' 3 [c1] = some y1 := by simpa [k3] using h1
      have g2 : DataW.trod enc Try.prog w 0 (fun _ => true) true n' 28 [c2] = some y2 := by simpa [kS] using h2
      obtain ⟨z0, e0, _, w0⟩ := DataW.trod_int Try.underlying3 g0
      obtain ⟨z1, e1, _, w1⟩ := DataW.trod_int Try.underlying3 g1
      simp at e0 e1
      subst e0 e1
      have a0 := hat 0 (by omega)
      have a1 := hat 1 (by omega)
      have a2 := hat 2 (by omega)
      rw [Go.Deep.add_add] at a0 a1 a2
      simp at a0 a1 a2
      have hz1 : z1 ≤ 9223372036854775807 := by first | exact (bounds_i64 w1).2 | (have := w1; simp [Lit.wf, IntKind.min, IntKind.max] at this; omega)
      rcases open_ints Try.underlying28 Try.underlying5 (by kernel_rfl) g2 with ⟨hcs, _⟩ | ⟨a', len', cap', zs, hcs, _, hl', hm', hz, hy', hcell, hwz⟩
      · simp at hcs
        subst hcs
        exact ⟨(z0, z1, none, 0, []), a0, a1, a2, Lib.BytesIn.nil _ _ _, Nat.zero_le _, hz1⟩
      · simp at hcs
        subst hcs
        simp only [if_true] at hz
        have hln : (zs.take len').length = len' := by simp; omega
        refine ⟨(z0, z1, some a', cap', zs.take len'), a0, a1, by rw [hln]; exact a2, ?_, ?_, hz1⟩
        · refine Lib.BytesIn.of_cells fun i hi => ?_
          rw [hln] at hi
          rw [hcell i (by omega)]
          congr 2
          simp [List.getD, hi]
        · simp only [Prod.mk.injEq] at hy
          have hD := hy.1
          rw [hy'] at hD
          have hmem : D i ∈ (List.range len).map D := List.mem_map.2 ⟨i, List.mem_range.2 hlt, rfl⟩
          have hw := of_decide_eq_true (List.all_eq_true.1 hsz _ (DataW.weights_mem_each ht hd _ (by
            simp only [DataW.weights, Try.underlying47, List.mem_cons, List.mem_append]
            exact Or.inr (Or.inl (weightsAll_mem hmem _ (by rw [hD]; exact do_weight))))))
          simp [lits, reachBytes] at hw
          show (zs.take len').length ≤ _
          rw [hln]
          omega
    obtain ⟨y, hy⟩ := Go.Deep.choose_lt each
    obtain ⟨b, o, s⟩ := a
    refine ⟨some ⟨b, o, s⟩, len, cap, fun i => (y i).1, fun i => (y i).2.1, fun i => (y i).2.2.1, fun i => (y i).2.2.2.1, fun i => (y i).2.2.2.2, rfl, by unfold maxLen at hm; omega, fun i hlt => ?_⟩
    obtain ⟨r0, r1, r2, r3⟩ := hy i hlt
    obtain rfl : s = none := by simpa [Addr.add] using World.cell?_spot (hy 0 (by omega)).1
    rw [Addr.add_lit] at r0 r1 r2
    exact ⟨b, o, rfl, r0, by rw [Nat.add_assoc]; exact r1, by rw [Nat.add_assoc]; exact r2, r3⟩
end Go.Proofs.Ytfeljjbelnlojaa
