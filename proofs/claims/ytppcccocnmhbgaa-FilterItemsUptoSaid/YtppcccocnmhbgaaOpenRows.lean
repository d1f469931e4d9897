/- An argument of slices of bytes, their lengths bounded by what they weigh. -/
import Derived.Test.YtppcccocnmhbgaaOpenBytes
import Derived.Deep.Slices
import Derived.Deep.Strs
namespace Go.Proofs.Ytppcccocnmhbgaa
open Go Go.ChangeShapes Go.WideShapes Go.ChangeAt Go.RowKit
set_option linter.unusedVariables false

/-- a slice of slices of bytes that came in -/
structure RowOf (w : World) (v : Value) (A : Option Addr) (C : Nat) (Z : List Int) : Prop where
  form : v = .slice A Z.length C
  bytes : Lib.BytesIn w A Z.length Z
  len : Z.length ≤ 140737488351232
  cap : Z.length ≤ C
  most : C ≤ 9223372036854775807
  none : A = none → C = 0
  range : ∀ y ∈ Z, 0 ≤ y ∧ y ≤ 255
  there : ∀ q, A = some q → 0 < Z.length → q.block < w.heap.size
def RowsIn (w : World) (a0 : Option Addr) (len : Nat) (A : Nat → Option Addr) (C : Nat → Nat) (Z : Nat → List Int) : Prop :=
  ∀ r, r < len → ∃ b o, a0 = some ⟨b, o, none⟩ ∧ w.cell? ⟨b, o + r, none⟩ = some (.slice (A r) (Z r).length (C r)) ∧ RowOf w (.slice (A r) (Z r).length (C r)) (A r) (C r) (Z r)
theorem RowOf.below {w w' : World} {v : Value} {A : Option Addr} {C : Nat} {Z : List Int} (h : RowOf w v A C Z) (hb : Below w.heap.size w w') : RowOf w' v A C Z :=
  ⟨h.form, bytes_keep h.bytes (Keep.of_below (X := fun _ => False) hb) (fun _ _ _ h => h), h.len, h.cap, h.most, h.none, h.range, fun q hq h0 => Nat.lt_of_lt_of_le (h.there q hq h0) hb.size⟩
theorem RowsIn.below {w w' : World} {a0 : Option Addr} {len : Nat} {A : Nat → Option Addr} {C : Nat → Nat} {Z : Nat → List Int} (h : RowsIn w a0 len A C Z) (hb : Below w.heap.size w w') : RowsIn w' a0 len A C Z := fun r hr => by
  obtain ⟨b, o, h1, h2, h3⟩ := h r hr
  exact ⟨b, o, h1, (hb.cell (p := ⟨b, o + r, none⟩) (cell_lt h2)).trans h2, h3.below hb⟩
theorem RowsIn.row {w : World} {a0 : Option Addr} {len : Nat} {A : Nat → Option Addr} {C : Nat → Nat} {Z : Nat → List Int} (h : RowsIn w a0 len A C Z) {r : Nat} (hr : r < len) : RowOf w (.slice (A r) (Z r).length (C r)) (A r) (C r) (Z r) := by
  obtain ⟨_, _, _, _, h3⟩ := h r hr
  exact h3
theorem RowsIn.less {w : World} {a0 : Option Addr} {len len' : Nat} {A : Nat → Option Addr} {C : Nat → Nat} {Z : Nat → List Int} (h : RowsIn w a0 len A C Z) (hl : len' ≤ len) : RowsIn w a0 len' A C Z := fun r hr => h r (Nat.lt_of_lt_of_le hr hl)
set_option maxRecDepth 100000
theorem weightsAll_mem {H : Type} {P : Program} {e : TypeId} : ∀ {l : List (DataW H)} {d : DataW H}, d ∈ l → ∀ n ∈ d.weights P e, n ∈ DataW.weightsAll P e l
  | d' :: r, d, hd, n, hn => by
    simp only [DataW.weightsAll, List.mem_append]
    rcases List.mem_cons.1 hd with rfl | h
    · exact Or.inl hn
    · exact Or.inr (weightsAll_mem h n hn)
theorem bytes_weight {H : Type} {e sp : List (DataW H)} : (e.length + sp.length) * 1 ∈ (DataW.slice e sp).weights Try.prog 26 := by
  rw [← bytesU]
  simp [DataW.weights, Try.underlying26]
/-- bytes among other data -/
theorem open_row {H : Type} {enc : TypeId × Value → H} {w : World} {c : Value} {d : DataW H} {p : List MemPlace} {n : Nat}
    (h : DataW.trod enc Try.prog w 0 (fun _ => true) true n 26 [c] = some (d, p)) (hw : ∀ m ∈ d.weights Try.prog 26, m ≤ reachBytes) :
    ∃ A C Z, RowOf w c A C Z := by
  rcases open_ints Try.underlying26 Try.underlying5 (by kernel_rfl) h with ⟨hcs, _⟩ | ⟨a', len', cap', zs, hcs, hlc, hl', hm', hz, hy', hcell, hwz⟩
  · simp at hcs
    subst hcs
    exact ⟨none, 0, [], rfl, Lib.BytesIn.nil _ _ _, by decide, by decide, by decide, fun _ => rfl, fun y hy => (by simp at hy), fun q hq => (by cases hq)⟩
  · simp at hcs
    subst hcs
    simp only [if_true] at hz
    have hln : (zs.take len').length = len' := by simp; omega
    have hcells : ∀ i, i < len' → w.cell? (a'.add i) = some (.int .u8 ((zs.take len').getD i 0)) := fun i hi => by
      rw [hcell i (by omega)]
      congr 2
      simp [List.getD, hi]
    have hcap : cap' ≤ 140737488351232 := by
      simp only [Prod.mk.injEq] at hy'
      have := hw _ (by rw [hy'.1]; exact bytes_weight)
      simp [lits, reachBytes] at this
      omega
    refine ⟨some a', cap', zs.take len', by rw [hln], ?_, by rw [hln]; omega, by rw [hln]; omega, by omega, fun hq => (by cases hq), fun x hx => ?_, fun q hq h0 => ?_⟩
    · refine Lib.BytesIn.of_cells fun i hi => ?_
      rw [hln] at hi
      exact hcells i hi
    · exact bounds_u8 (hwz x (List.mem_of_mem_take hx))
    · cases hq
      rw [hln] at h0
      have := cell_lt (hcells 0 h0)
      have hb : (a'.add 0).block = a'.block := by unfold Addr.add; split <;> rfl
      rw [hb] at this; exact this
theorem open_browsS {H : Type} {enc : TypeId × Value → H} {w : World} {b0 : Nat} {r : Reach} {v : Value} {d : DataW H} {p : List MemPlace} {ts : List TypeId} {ds : List (DataW H)} {jj : Nat}
    (hv : Value.okWide Try.prog w r b0 24 v) (h : DataW.Trod enc Try.prog w 0 (fun _ => true) true 24 v d p)
    (hsz : (DataW.weightsEach Try.prog ts ds).all (· ≤ reachBytes) = true) (ht : ts[jj]? = some 24) (hd : ds[jj]? = some d) :
    ∃ a0 len cap A C Z, v = .slice a0 len cap ∧ len ≤ 9223372036854775807 ∧ len ≤ cap ∧ cap ≤ 9223372036854775807 ∧ RowsIn w a0 len A C Z := by
  obtain ⟨a0, len, cap, rfl⟩ := okWide_slice Try.underlying24 hv
  obtain ⟨fuel, hf⟩ := h
  rcases Go.Deep.open_slice Try.underlying24 hf with ⟨hcs, _⟩ | ⟨a, len', cap', m, n, D, Pl, hcs, hlc, hl, hm, hmm, hx, hi⟩
  · simp [Value.cells] at hcs
    obtain ⟨rfl, rfl, rfl⟩ := hcs
    exact ⟨_, _, _, fun _ => none, fun _ => 0, fun _ => [], rfl, by decide, by decide, by decide, fun r hr => by omega⟩
  · simp [Value.cells] at hcs
    obtain ⟨rfl, rfl, rfl⟩ := hcs
    simp only [if_true] at hmm
    simp only [Prod.mk.injEq] at hx
    obtain ⟨rfl, _⟩ := hx
    rw [show Try.prog.cellsOf 26 = 1 from by kernel_rfl] at hi
    have each : ∀ i, i < len → ∃ y : Option Addr × Nat × List Int, w.cell? (a.add i) = some (.slice y.1 y.2.2.length y.2.1) ∧ RowOf w (.slice y.1 y.2.2.length y.2.1) y.1 y.2.1 y.2.2 := by
      intro i hlt
      obtain ⟨cs', hc, ht'⟩ := hi i (by omega)
      obtain ⟨_, hcl', hat⟩ := World.cells?_some hc
      obtain ⟨c0, rfl⟩ : ∃ c0, cs' = [c0] := by
        match cs', hcl' with
        | [c0], _ => exact ⟨c0, rfl⟩
      have a0 := hat 0 (by omega)
      rw [Go.Deep.add_add] at a0
      simp at a0
      have hmem : D i ∈ (List.range len).map D := List.mem_map.2 ⟨i, List.mem_range.2 hlt, rfl⟩
      obtain ⟨A, C, Z, hR⟩ := open_row ht' (fun k hk => by
        have hw := of_decide_eq_true (List.all_eq_true.1 hsz _ (DataW.weights_mem_each ht hd k (by
          simp only [DataW.weights, Try.underlying24, List.mem_cons, List.mem_append]
          exact Or.inr (Or.inl (weightsAll_mem hmem k hk)))))
        exact hw)
      have hf := hR.form
      subst hf
      exact ⟨(A, C, Z), a0, hR⟩
    obtain ⟨y, hy⟩ := Go.Deep.choose_lt each
    obtain ⟨b, o, s⟩ := a
    refine ⟨some ⟨b, o, s⟩, len, cap, fun i => (y i).1, fun i => (y i).2.1, fun i => (y i).2.2, rfl, by unfold maxLen at hm; omega, by omega, by unfold maxLen at hm; omega, fun i hlt => ?_⟩
    obtain ⟨r0, r1⟩ := hy i hlt
    obtain rfl : s = none := by simpa [Addr.add] using World.cell?_spot (hy 0 (by omega)).1
    rw [Addr.add_lit] at r0
    exact ⟨b, o, rfl, r0, r1⟩
end Go.Proofs.Ytppcccocnmhbgaa
