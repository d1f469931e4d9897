import Derived.Test.YtgedpgdefafofaaDoorPack1
import Derived.Test.YtgedpgdefafofaaDoorRows
import Derived.Deep.Slices
import Derived.Deep.Strs
import Derived.SizedLaws
import Derived.WalkKit
import Derived.Laws.StructEq
import Derived.Deep.MidRow
import Derived.Laws.Rows
section
/- Data that came in, of any plain type: what its cells hold. The bulk bounds every length. -/
namespace Go.Proofs.YtgedpgdefafofaaDoor
open Go Go.ChangeShapes Go.WideShapes Go.ChangeAt Go.RowKit
set_option linter.unusedVariables false

/-- are all types that t reaches plain ones? -/
def plainTy (P : Program) : Nat → TypeId → Bool
  | 0, _ => false
  | f + 1, t => match P.underlying t with
    | some (.int _) => true
    | some .bool => true
    | some .string => true
    | some (.slice e) => decide (0 < P.cellsOf e) && plainTy P f e
    | some (.struct fs) => fs.toList.all fun x => plainTy P f x.type
    | some (.array _ e) => plainTy P f e
    | _ => false
/-- cells from an address on -/
def CellsAt (w : World) (b o : Nat) (cs : List Value) : Prop := ∀ j, j < cs.length → w.cell? ⟨b, o + j, none⟩ = cs[j]?
/-- these cells are a value of type t, and what it leads to is there; no length beyond M -/
def Ok (P : Program) (w : World) (M : Nat) : Nat → TypeId → List Value → Prop
  | 0, _, _ => False
  | f + 1, t, cs => match P.underlying t with
    | some (.int k) => ∃ z, cs = [.int k z] ∧ (Lit.int k z).wf = true
    | some .bool => ∃ b, cs = [.bool b]
    | some .string => ∃ s : ByteArray, cs = [.string s] ∧ s.size ≤ M
    | some (.slice e) => ∃ a len cap, cs = [.slice a len cap] ∧ len ≤ cap ∧ cap ≤ M ∧ (a = none → cap = 0) ∧ ∀ i, i < len → ∃ b o cs', a = some ⟨b, o, none⟩ ∧ cs'.length = P.cellsOf e ∧ CellsAt w b (o + i * P.cellsOf e) cs' ∧ Ok P w M f e cs'
    | some (.struct fs) => cs.length = P.cellsOf t ∧ ∀ (i : Nat) x, fs[i]? = some x → Ok P w M f x.type ((cs.drop x.offset).take (P.cellsOf x.type))
    | some (.array n e) => cs.length = P.cellsOf t ∧ ∀ i, i < n → Ok P w M f e ((cs.drop (i * P.cellsOf e)).take (P.cellsOf e))
    | _ => False
section
variable {P : Program} {w : World} {M f : Nat} {t : TypeId} {cs : List Value}
theorem Ok.int {k : IntKind} (ht : P.underlying t = some (.int k)) (h : Ok P w M (f + 1) t cs) : ∃ z, cs = [.int k z] ∧ (Lit.int k z).wf = true := by
  unfold Ok at h; rw [ht] at h; exact h
theorem Ok.bool (ht : P.underlying t = some .bool) (h : Ok P w M (f + 1) t cs) : ∃ b, cs = [.bool b] := by
  unfold Ok at h; rw [ht] at h; exact h
theorem Ok.string (ht : P.underlying t = some .string) (h : Ok P w M (f + 1) t cs) : ∃ s : ByteArray, cs = [.string s] ∧ s.size ≤ M := by
  unfold Ok at h; rw [ht] at h; exact h
theorem Ok.slice {e : TypeId} (ht : P.underlying t = some (.slice e)) (h : Ok P w M (f + 1) t cs) : ∃ a len cap, cs = [.slice a len cap] ∧ len ≤ cap ∧ cap ≤ M ∧ (a = none → cap = 0) ∧ ∀ i, i < len → ∃ b o cs', a = some ⟨b, o, none⟩ ∧ cs'.length = P.cellsOf e ∧ CellsAt w b (o + i * P.cellsOf e) cs' ∧ Ok P w M f e cs' := by
  unfold Ok at h; rw [ht] at h; exact h
theorem Ok.struct {fs : Array Field} (ht : P.underlying t = some (.struct fs)) (h : Ok P w M (f + 1) t cs) : cs.length = P.cellsOf t ∧ ∀ (i : Nat) x, fs[i]? = some x → Ok P w M f x.type ((cs.drop x.offset).take (P.cellsOf x.type)) := by
  unfold Ok at h; rw [ht] at h; exact h
theorem Ok.array {n : Nat} {e : TypeId} (ht : P.underlying t = some (.array n e)) (h : Ok P w M (f + 1) t cs) : cs.length = P.cellsOf t ∧ ∀ i, i < n → Ok P w M f e ((cs.drop (i * P.cellsOf e)).take (P.cellsOf e)) := by
  unfold Ok at h; rw [ht] at h; exact h
theorem CellsAt.below {w w' : World} {b o : Nat} {cs : List Value} (h : CellsAt w b o cs) (hb : Below w.heap.size w w') : CellsAt w' b o cs := fun j hj => by
  have h1 := h j hj
  rw [List.getElem?_eq_getElem hj] at h1 ⊢
  exact (hb.cell (p := ⟨b, o + j, none⟩) (cell_lt h1)).trans h1
theorem Ok.below {w' : World} (hb : Below w.heap.size w w') : ∀ {f : Nat} {t : TypeId} {cs : List Value}, Ok P w M f t cs → Ok P w' M f t cs
  | 0, _, _, h => h
  | f + 1, t, cs, h => by
    unfold Ok at h ⊢
    split at h
    · exact h
    · exact h
    · exact h
    · obtain ⟨a, len, cap, h1, h2, h3, h4, h5⟩ := h
      exact ⟨a, len, cap, h1, h2, h3, h4, fun i hi => by
        obtain ⟨b, o, cs', e1, e2, e3, e4⟩ := h5 i hi
        exact ⟨b, o, cs', e1, e2, e3.below hb, Ok.below hb e4⟩⟩
    · exact ⟨h.1, fun i x hx => Ok.below hb (h.2 i x hx)⟩
    · exact ⟨h.1, fun i hi => Ok.below hb (h.2 i hi)⟩
    · exact h
end
theorem bulk_part {H : Type} {d : DataW H} {l : List (DataW H)} (h : d ∈ l) : Rows.uptoBulk d ≤ Rows.uptoBulkAll l := by
  induction l with
  | nil => cases h
  | cons x r ih =>
    simp only [Rows.uptoBulkAll]
    cases List.mem_cons.1 h with
    | inl e => subst e; omega
    | inr e => have := ih e; omega
theorem bulk_one {H : Type} (d : DataW H) : 1 ≤ Rows.uptoBulk d := by
  cases d with
  | lit l => cases l <;> simp [Rows.uptoBulk]
  | nil => simp [Rows.uptoBulk]
  | ptr d => simp [Rows.uptoBulk]
  | slice elems spare => simp [Rows.uptoBulk]
  | agg parts => simp [Rows.uptoBulk]
  | iface t d => simp [Rows.uptoBulk]
  | map entries => simp [Rows.uptoBulk]
  | held h => simp [Rows.uptoBulk]
theorem bulk_length {H : Type} (l : List (DataW H)) : l.length ≤ Rows.uptoBulkAll l := by
  induction l with
  | nil => simp [Rows.uptoBulkAll]
  | cons x r ih => have := bulk_one x; simp only [Rows.uptoBulkAll, List.length_cons]; omega
/-- WHAT CAME IN, of a plain type -/
theorem ok_of_trod {H : Type} {enc : TypeId × Value → H} {P : Program} {w : World} {M : Nat} : ∀ {f n : Nat} {t : TypeId} {cs : List Value} {x : DataW H × List MemPlace},
    plainTy P f t = true → DataW.trod enc P w 0 (fun _ => true) true n t cs = some x → Rows.uptoBulk x.1 ≤ M → Ok P w M f t cs
  | 0, _, _, _, _, h, _, _ => by simp [plainTy] at h
  | f + 1, n, t, cs, x, hp, h, hM => by
    unfold plainTy at hp
    unfold Ok
    split at hp <;> rename_i hu
    · obtain ⟨z, h1, _, h2⟩ := DataW.trod_int hu h
      exact ⟨z, h1, h2⟩
    · obtain ⟨b, h1, _⟩ := DataW.trod_bool hu h
      exact ⟨b, h1⟩
    · obtain ⟨s, h1, rfl, _⟩ := DataW.trod_string hu h
      refine ⟨s, h1, ?_⟩
      have e : s.data.toList.length = s.size := by rw [Array.length_toList]; rfl
      simp only [Rows.uptoBulk] at hM
      omega
    · rw [Bool.and_eq_true] at hp
      obtain ⟨hp0, hp⟩ := hp
      have hp0 := of_decide_eq_true hp0
      rcases Go.Deep.open_slice hu h with ⟨rfl, _⟩ | ⟨a, len, cap, m, n', D, Pl, rfl, _, hl, hm, hmm, rfl, hi⟩
      · exact ⟨none, 0, 0, rfl, Nat.le_refl _, Nat.zero_le _, fun _ => rfl, fun i hi => by omega⟩
      · simp only [if_true] at hmm
        subst hmm
        have h1 := bulk_length ((List.range len).map D)
        have h2 := bulk_length ((List.range (m - len)).map fun j => D (len + j))
        simp only [Rows.uptoBulk] at hM
        simp only [List.length_map, List.length_range] at h1 h2
        refine ⟨some a, len, m, rfl, hl, by omega, fun h => (by cases h), fun i hlt => ?_⟩
        obtain ⟨cs', hc, ht'⟩ := hi i (by omega)
        obtain ⟨_, hcl, hat⟩ := World.cells?_some hc
        have hD : Rows.uptoBulk (D i) ≤ M := by
          have := bulk_part (List.mem_map.2 ⟨i, List.mem_range.2 hlt, rfl⟩ : D i ∈ (List.range len).map D)
          omega
        have hOk := ok_of_trod hp ht' hD
        obtain ⟨b, o, s⟩ := a
        obtain ⟨cs0, hc0, _⟩ := hi 0 (by omega)
        obtain ⟨_, hcl0, hat0⟩ := World.cells?_some hc0
        have hat0 := hat0 0 hp0
        rw [List.getElem?_eq_getElem (by omega)] at hat0
        obtain rfl : s = none := by simpa [Addr.add] using World.cell?_spot hat0
        refine ⟨b, o, cs', rfl, hcl, fun j hj => ?_, hOk⟩
        have := hat j (by omega)
        rw [Go.Deep.add_add, Addr.add_lit, ← Nat.add_assoc] at this
        exact this
    · obtain ⟨xs, n', _, rfl, hl, hlen, hf⟩ := DataW.trod_struct hu h
      refine ⟨hl, fun i fd hfd => ?_⟩
      have hi := (Array.getElem?_eq_some_iff.1 hfd).1
      have h1 := hf i fd hfd
      rw [List.getElem?_eq_getElem (by omega)] at h1
      refine ok_of_trod (List.all_eq_true.1 hp fd (by
        rw [Array.mem_toList_iff]; exact Array.mem_of_getElem? hfd)) h1 ?_
      have := bulk_part (List.mem_map.2 ⟨xs[i]'(by omega), List.getElem_mem (by omega), rfl⟩ : (xs[i]'(by omega)).1 ∈ xs.map (·.1))
      simp only [Rows.uptoBulk] at hM
      omega
    · obtain ⟨xs, n', _, rfl, hl, hlen, hf⟩ := DataW.trod_array hu h
      refine ⟨hl, fun i hi => ?_⟩
      have h1 := hf i hi
      rw [List.getElem?_eq_getElem (by omega)] at h1
      refine ok_of_trod hp h1 ?_
      have := bulk_part (List.mem_map.2 ⟨xs[i]'(by omega), List.getElem_mem (by omega), rfl⟩ : (xs[i]'(by omega)).1 ∈ xs.map (·.1))
      simp only [Rows.uptoBulk] at hM
      omega
    · simp at hp
end Go.Proofs.YtgedpgdefafofaaDoor
end

section
/- An argument of bytes, its length bounded by what it weighs. -/
namespace Go.Proofs.YtgedpgdefafofaaDoor
open Go Go.ChangeShapes Go.WideShapes Go.ChangeAt Go.RowKit
set_option linter.unusedVariables false

set_option maxRecDepth 100000
theorem bytesU : Tryd.prog.bytesOf 5 = 1 := by kernel_rfl
theorem open_bytesS {H : Type} {enc : TypeId × Value → H} {w : World} {b0 : Nat} {r : Reach} {v : Value} {d : DataW H} {p : List MemPlace} {ts : List TypeId} {ds : List (DataW H)} {jj : Nat}
    (hv : Value.okWide Tryd.prog w r b0 30 v) (h : DataW.Trod enc Tryd.prog w 0 (fun _ => true) true 30 v d p)
    (hsz : (DataW.weightsEach Tryd.prog ts ds).all (· ≤ reachBytes) = true) (ht : ts[jj]? = some 30) (hd : ds[jj]? = some d) :
    ∃ a0 cap xs, v = .slice a0 (List.length xs) cap ∧ xs.length ≤ 140737488351232 ∧ Lib.BytesIn w a0 xs.length xs ∧ xs.length ≤ cap ∧ (∀ x ∈ xs, 0 ≤ x ∧ x ≤ 255) ∧ (∀ q, a0 = some q → 0 < xs.length → q.block < w.heap.size) ∧ (a0 = none → cap = 0) ∧ cap ≤ 140737488351232 := by
  obtain ⟨a0, len, cap, rfl⟩ := okWide_slice Tryd.underlying30 hv
  obtain ⟨fuel, hf⟩ := h
  rcases open_ints Tryd.underlying30 Tryd.underlying5 (by kernel_rfl) hf with ⟨hcs, _⟩ | ⟨a, len', cap', zs, hcs, hlc, hl, hm, hz, hy, hcell, hwz⟩
  · simp [Value.cells] at hcs
    obtain ⟨rfl, rfl, rfl⟩ := hcs
    exact ⟨none, 0, [], rfl, by decide, Lib.BytesIn.nil _ _ _, by decide, fun x hx => (by simp at hx), fun q hq => (by cases hq), fun _ => rfl, by decide⟩
  · simp [Value.cells] at hcs
    obtain ⟨rfl, rfl, rfl⟩ := hcs
    simp only [if_true] at hz
    have hln : (zs.take len).length = len := by simp; omega
    have hcap : cap ≤ 140737488351232 := by
      simp only [Prod.mk.injEq] at hy
      have hw := of_decide_eq_true (List.all_eq_true.1 hsz _ (DataW.weights_mem_each ht hd cap (by
        rw [hy.1]
        simp [DataW.weights, Tryd.underlying30, lits, bytesU, hz]
        omega)))
      simpa [reachBytes] using hw
    have hcells : ∀ i, i < len → w.cell? (a.add i) = some (.int .u8 ((zs.take len).getD i 0)) := fun i hi => by
      rw [hcell i (by omega)]
      congr 2
      simp [List.getD, hi]
    refine ⟨some a, cap, zs.take len, by rw [hln], by rw [hln]; omega, ?_, by rw [hln]; omega, fun x hx => ?_, fun q hq h0 => ?_, fun hq => (by cases hq), hcap⟩
    · refine Lib.BytesIn.of_cells fun i hi => ?_
      rw [hln] at hi
      exact hcells i hi
    · exact bounds_u8 (hwz x (List.mem_of_mem_take hx))
    · cases hq
      rw [hln] at h0
      have := cell_lt (hcells 0 h0)
      have hb : (a.add 0).block = a.block := by unfold Addr.add; split <;> rfl
      rw [hb] at this; exact this
end Go.Proofs.YtgedpgdefafofaaDoor
end

section
/- An argument of slices of bytes, their lengths bounded by what they weigh. -/
namespace Go.Proofs.YtgedpgdefafofaaDoor
open Go Go.ChangeShapes Go.WideShapes Go.ChangeAt Go.RowKit
set_option linter.unusedVariables false

/-- a slice of slices of bytes that came in -/
structure RowOf (w : World) (v : Value) (A : Option Addr) (C : Nat) (Z : List Int) : Prop where
  form : v = .slice A Z.length C
  bytes : Lib.BytesIn w A Z.length Z
  len : Z.length ≤ 140737488351232
  cap : Z.length ≤ C
  most : C ≤ 9223372036854775807
  none : A = none → C = 0
  range : ∀ y ∈ Z, 0 ≤ y ∧ y ≤ 255
  there : ∀ q, A = some q → 0 < Z.length → q.block < w.heap.size
def RowsIn (w : World) (a0 : Option Addr) (len : Nat) (A : Nat → Option Addr) (C : Nat → Nat) (Z : Nat → List Int) : Prop :=
  ∀ r, r < len → ∃ b o, a0 = some ⟨b, o, none⟩ ∧ w.cell? ⟨b, o + r, none⟩ = some (.slice (A r) (Z r).length (C r)) ∧ RowOf w (.slice (A r) (Z r).length (C r)) (A r) (C r) (Z r)
theorem RowOf.below {w w' : World} {v : Value} {A : Option Addr} {C : Nat} {Z : List Int} (h : RowOf w v A C Z) (hb : Below w.heap.size w w') : RowOf w' v A C Z :=
  ⟨h.form, bytes_keep h.bytes (Keep.of_below (X := fun _ => False) hb) (fun _ _ _ h => h), h.len, h.cap, h.most, h.none, h.range, fun q hq h0 => Nat.lt_of_lt_of_le (h.there q hq h0) hb.size⟩
theorem RowsIn.below {w w' : World} {a0 : Option Addr} {len : Nat} {A : Nat → Option Addr} {C : Nat → Nat} {Z : Nat → List Int} (h : RowsIn w a0 len A C Z) (hb : Below w.heap.size w w') : RowsIn w' a0 len A C Z := fun r hr => by
  obtain ⟨b, o, h1, h2, h3⟩ := h r hr
  exact ⟨b, o, h1, (hb.cell (p := ⟨b, o + r, none⟩) (cell_lt h2)).trans h2, h3.below hb⟩
theorem RowsIn.row {w : World} {a0 : Option Addr} {len : Nat} {A : Nat → Option Addr} {C : Nat → Nat} {Z : Nat → List Int} (h : RowsIn w a0 len A C Z) {r : Nat} (hr : r < len) : RowOf w (.slice (A r) (Z r).length (C r)) (A r) (C r) (Z r) := by
  obtain ⟨_, _, _, _, h3⟩ := h r hr
  exact h3
theorem RowsIn.less {w : World} {a0 : Option Addr} {len len' : Nat} {A : Nat → Option Addr} {C : Nat → Nat} {Z : Nat → List Int} (h : RowsIn w a0 len A C Z) (hl : len' ≤ len) : RowsIn w a0 len' A C Z := fun r hr => h r (Nat.lt_of_lt_of_le hr hl)
set_option maxRecDepth 100000
theorem weightsAll_mem {H : Type} {P : Program} {e : TypeId} : ∀ {l : List (DataW H)} {d : DataW H}, d ∈ l → ∀ n ∈ d.weights P e, n ∈ DataW.weightsAll P e l
  | d' :: r, d, hd, n, hn => by
    simp only [DataW.weightsAll, List.mem_append]
    rcases List.mem_cons.1 hd with rfl | h
    · exact Or.inl hn
    · exact Or.inr (weightsAll_mem h n hn)
theorem bytes_weight {H : Type} {e sp : List (DataW H)} : (e.length + sp.length) * 1 ∈ (DataW.slice e sp).weights Tryd.prog 30 := by
  rw [← bytesU]
  simp [DataW.weights, Tryd.underlying30]
/-- bytes among other data -/
theorem open_row {H : Type} {enc : TypeId × Value → H} {w : World} {c : Value} {d : DataW H} {p : List MemPlace} {n : Nat}
    (h : DataW.trod enc Tryd.prog w 0 (fun _ => true) true n 30 [c] = some (d, p)) (hw : ∀ m ∈ d.weights Tryd.prog 30, m ≤ reachBytes) :
    ∃ A C Z, RowOf w c A C Z := by
  rcases open_ints Tryd.underlying30 Tryd.underlying5 (by kernel_rfl) h with ⟨hcs, _⟩ | ⟨a', len', cap', zs, hcs, hlc, hl', hm', hz, hy', hcell, hwz⟩
  · simp at hcs
    subst hcs
    exact ⟨none, 0, [], rfl, Lib.BytesIn.nil _ _ _, by decide, by decide, by decide, fun _ => rfl, fun y hy => (by simp at hy), fun q hq => (by cases hq)⟩
  · simp at hcs
    subst hcs
    simp only [if_true] at hz
    have hln : (zs.take len').length = len' := by simp; omega
    have hcells : ∀ i, i < len' → w.cell? (a'.add i) = some (.int .u8 ((zs.take len').getD i 0)) := fun i hi => by
      rw [hcell i (by omega)]
      congr 2
      simp [List.getD, hi]
    have hcap : cap' ≤ 140737488351232 := by
      simp only [Prod.mk.injEq] at hy'
      have := hw _ (by rw [hy'.1]; exact bytes_weight)
      simp [lits, reachBytes] at this
      omega
    refine ⟨some a', cap', zs.take len', by rw [hln], ?_, by rw [hln]; omega, by rw [hln]; omega, by omega, fun hq => (by cases hq), fun x hx => ?_, fun q hq h0 => ?_⟩
    · refine Lib.BytesIn.of_cells fun i hi => ?_
      rw [hln] at hi
      exact hcells i hi
    · exact bounds_u8 (hwz x (List.mem_of_mem_take hx))
    · cases hq
      rw [hln] at h0
      have := cell_lt (hcells 0 h0)
      have hb : (a'.add 0).block = a'.block := by unfold Addr.add; split <;> rfl
      rw [hb] at this; exact this
theorem open_browsS {H : Type} {enc : TypeId × Value → H} {w : World} {b0 : Nat} {r : Reach} {v : Value} {d : DataW H} {p : List MemPlace} {ts : List TypeId} {ds : List (DataW H)} {jj : Nat}
    (hv : Value.okWide Tryd.prog w r b0 34 v) (h : DataW.Trod enc Tryd.prog w 0 (fun _ => true) true 34 v d p)
    (hsz : (DataW.weightsEach Tryd.prog ts ds).all (· ≤ reachBytes) = true) (ht : ts[jj]? = some 34) (hd : ds[jj]? = some d) :
    ∃ a0 len cap A C Z, v = .slice a0 len cap ∧ len ≤ 9223372036854775807 ∧ len ≤ cap ∧ cap ≤ 9223372036854775807 ∧ RowsIn w a0 len A C Z := by
  obtain ⟨a0, len, cap, rfl⟩ := okWide_slice Tryd.underlying34 hv
  obtain ⟨fuel, hf⟩ := h
  rcases Go.Deep.open_slice Tryd.underlying34 hf with ⟨hcs, _⟩ | ⟨a, len', cap', m, n, D, Pl, hcs, hlc, hl, hm, hmm, hx, hi⟩
  · simp [Value.cells] at hcs
    obtain ⟨rfl, rfl, rfl⟩ := hcs
    exact ⟨_, _, _, fun _ => none, fun _ => 0, fun _ => [], rfl, by decide, by decide, by decide, fun r hr => by omega⟩
  · simp [Value.cells] at hcs
    obtain ⟨rfl, rfl, rfl⟩ := hcs
    simp only [if_true] at hmm
    simp only [Prod.mk.injEq] at hx
    obtain ⟨rfl, _⟩ := hx
    rw [show Tryd.prog.cellsOf 30 = 1 from by kernel_rfl] at hi
    have each : ∀ i, i < len → ∃ y : Option Addr × Nat × List Int, w.cell? (a.add i) = some (.slice y.1 y.2.2.length y.2.1) ∧ RowOf w (.slice y.1 y.2.2.length y.2.1) y.1 y.2.1 y.2.2 := by
      intro i hlt
      obtain ⟨cs', hc, ht'⟩ := hi i (by omega)
      obtain ⟨_, hcl', hat⟩ := World.cells?_some hc
      obtain ⟨c0, rfl⟩ : ∃ c0, cs' = [c0] := by
        match cs', hcl' with
        | [c0], _ => exact ⟨c0, rfl⟩
      have a0 := hat 0 (by omega)
      rw [Go.Deep.add_add] at a0
      simp at a0
      have hmem : D i ∈ (List.range len).map D := List.mem_map.2 ⟨i, List.mem_range.2 hlt, rfl⟩
      obtain ⟨A, C, Z, hR⟩ := open_row ht' (fun k hk => by
        have hw := of_decide_eq_true (List.all_eq_true.1 hsz _ (DataW.weights_mem_each ht hd k (by
          simp only [DataW.weights, Tryd.underlying34, List.mem_cons, List.mem_append]
          exact Or.inr (Or.inl (weightsAll_mem hmem k hk)))))
        exact hw)
      have hf := hR.form
      subst hf
      exact ⟨(A, C, Z), a0, hR⟩
    obtain ⟨y, hy⟩ := Go.Deep.choose_lt each
    obtain ⟨b, o, s⟩ := a
    refine ⟨some ⟨b, o, s⟩, len, cap, fun i => (y i).1, fun i => (y i).2.1, fun i => (y i).2.2, rfl, by unfold maxLen at hm; omega, by omega, by unfold maxLen at hm; omega, fun i hlt => ?_⟩
    obtain ⟨r0, r1⟩ := hy i hlt
    obtain rfl : s = none := by simpa [Addr.add] using World.cell?_spot (hy 0 (by omega)).1
    rw [Addr.add_lit] at r0
    exact ⟨b, o, rfl, r0, r1⟩
end Go.Proofs.YtgedpgdefafofaaDoor
end

section
/- '==' on two arrays of integers. -/
namespace Go.Proofs.YtgedpgdefafofaaDoor
open Go

theorem run_equalIn_ints {P : Program} (d : Nat) (t e : TypeId) (len : Nat) (k k' : IntKind) (xs ys : Array Value) (f g : Nat → Int) (w : World)
    (ht : P.underlying t = some (.array len e)) (he : P.underlying e = some (.int k')) (ha : ∀ w, (isAgg e).run P w = .ok false w) (hs : ∀ w, (Go.sizeOf e).run P w = .ok 1 w)
    (hx : ∀ i, i < len → xs[i]? = some (.int k (f i))) (hy : ∀ i, i < len → ys[i]? = some (.int k (g i))) :
    (Op.equalIn (d + 2) t (.agg xs) (.agg ys)).run P w = .ok ((List.range len).all fun i => f i == g i) w := by
  have px : ∀ i, i < len → ∀ w, (part e xs i).run P w = .ok (.int k (f i)) w := by
    intro i hi w; simp [part, Sem.run_bind, ha, hx i hi]
  have py : ∀ i, i < len → ∀ w, (part e ys i).run P w = .ok (.int k (g i)) w := by
    intro i hi w; simp [part, Sem.run_bind, ha, hy i hi]
  unfold Op.equalIn
  simp only [Sem.run_bind, run_underlying ht, Result.andThen_ok, hs, Nat.mul_one]
  rw [Std.Legacy.Range.forIn_eq_forIn_range']
  simp only [Std.Legacy.Range.size, Nat.sub_zero, Nat.add_sub_cancel, Nat.div_one]
  have key : ∀ (n s : Nat) (w : World), s + n ≤ len → Sem.run P (forIn (m := Sem) (List.range' s n) ((none, ()) : Option Bool × Unit) (fun i (_ : Option Bool × Unit) => do
            let __do_lift ← part e xs i
            let __do_lift_1 ← part e ys i
            let __do_lift ← Op.equalIn (d + 1) e __do_lift __do_lift_1
            if (!__do_lift) = true then pure (ForInStep.done (some false, ())) else pure (ForInStep.yield (none, ())))) w =
      .ok (if (List.range' s n).all fun i => f i == g i then (none, ()) else (some false, ())) w := by
    intro n
    induction n with
    | zero => intro s w _; simp
    | succ n ih =>
      intro s w h
      rw [List.range'_succ, List.forIn_cons, List.all_cons]
      simp only [Sem.run_bind, px s (by omega), py s (by omega), Result.andThen_ok, run_equalIn_int w d e k k' _ _ he]
      by_cases hfg : f s = g s
      · simp only [hfg, beq_self_eq_true, Bool.not_true, Bool.false_eq_true, if_false, Sem.run_pure, Result.andThen_ok, Bool.true_and]
        exact ih (s + 1) w (by omega)
      · simp [hfg]
  rw [key len 0 w (by omega), Result.andThen_ok, List.range_eq_range']
  cases (List.range' 0 len).all (fun i => f i == g i) <;> rfl

/-- '==' on two arrays of integers -/
theorem run_eql_ints {P : Program} (t e : TypeId) (len : Nat) (k k' : IntKind) (xs ys : Array Value) (f g : Nat → Int) (w : World)
    (ht : P.underlying t = some (.array len e)) (he : P.underlying e = some (.int k')) (ha : ∀ w, (isAgg e).run P w = .ok false w) (hs : ∀ w, (Go.sizeOf e).run P w = .ok 1 w)
    (hx : ∀ i, i < len → xs[i]? = some (.int k (f i))) (hy : ∀ i, i < len → ys[i]? = some (.int k (g i))) :
    (binOp .eql t (.agg xs) (.agg ys)).run P w = .ok (.bool ((List.range len).all fun i => f i == g i)) w := by
  rw [run_eql_struct, run_equalIn_ints 9998 t e len k k' xs ys f g w ht he ha hs hx hy]; rfl
theorem run_neq_ints {P : Program} (t e : TypeId) (len : Nat) (k k' : IntKind) (xs ys : Array Value) (f g : Nat → Int) (w : World)
    (ht : P.underlying t = some (.array len e)) (he : P.underlying e = some (.int k')) (ha : ∀ w, (isAgg e).run P w = .ok false w) (hs : ∀ w, (Go.sizeOf e).run P w = .ok 1 w)
    (hx : ∀ i, i < len → xs[i]? = some (.int k (f i))) (hy : ∀ i, i < len → ys[i]? = some (.int k (g i))) :
    (binOp .neq t (.agg xs) (.agg ys)).run P w = .ok (.bool (!((List.range len).all fun i => f i == g i))) w := by
  rw [run_neq_struct, run_equalIn_ints 9998 t e len k k' xs ys f g w ht he ha hs hx hy]; rfl
end Go.Proofs.YtgedpgdefafofaaDoor
end

section
/- Hashes: arrays of 32 bytes, as numbers; whole arrays that the walk does not open. -/
namespace Go.Proofs.YtgedpgdefafofaaDoor
open Go.RowKit

/-- byte k of n -/
def byt (n k : Nat) : Int := ((n / 2 ^ (8 * k) % 2 ^ 8 : Nat) : Int)
/-- the cells of api.Hash that is n -/
def hls (n : Nat) : List Value := (List.range 32).map fun k => Value.int .u8 (byt n k)
def hcs (n : Nat) : Array Value := (hls n).toArray
abbrev hv (n : Nat) : Value := .agg (hcs n)
theorem hcs_size (n : Nat) : (hcs n).size = 32 := by simp [hcs, hls]
theorem hcs_get (n k : Nat) (h : k < 32) : (hcs n)[k]? = some (.int .u8 (byt n k)) := by simp [hcs, hls, h]
theorem hls_length (n : Nat) : (hls n).length = 32 := by simp [hls]
theorem byt_range (n k : Nat) : 0 ≤ byt n k ∧ byt n k < 256 := by
  unfold byt
  have : n / 2 ^ (8 * k) % 2 ^ 8 < 2 ^ 8 := Nat.mod_lt _ (by decide)
  omega
theorem hcs_one (n : Nat) : (hcs n).all (·.oneCell') = true := by
  unfold hcs hls; rw [Array.all_eq_true]; intro i h; simp [Value.oneCell']
def bn (n k : Nat) : Nat := n / 2 ^ (8 * k) % 2 ^ 8
theorem byt_eq (n k : Nat) : byt n k = (bn n k : Int) := rfl
theorem bn_lt (n k : Nat) : bn n k < 2 ^ 8 := Nat.mod_lt _ (by decide)
theorem bn_bit (n k i : Nat) : (bn n k).testBit i = (decide (i < 8) && n.testBit (8 * k + i)) := by
  unfold bn; rw [Nat.testBit_mod_two_pow, Nat.testBit_div_two_pow, Nat.add_comm]
theorem bn_ext {a b : Nat} (ha : a < 2 ^ 256) (hb : b < 2 ^ 256) (h : ∀ k, k < 32 → bn a k = bn b k) : a = b := by
  apply Nat.eq_of_testBit_eq; intro i
  by_cases hi : i < 256
  · have := congrArg (fun x => x.testBit (i % 8)) (h (i / 8) (by omega))
    simp only [bn_bit] at this
    rw [decide_eq_true (show i % 8 < 8 from Nat.mod_lt _ (by decide))] at this
    simpa [show 8 * (i / 8) + i % 8 = i from by omega] using this
  · rw [Nat.testBit_lt_two_pow (Nat.lt_of_lt_of_le ha (Nat.pow_le_pow_right (by decide) (by omega))), Nat.testBit_lt_two_pow (Nat.lt_of_lt_of_le hb (Nat.pow_le_pow_right (by decide) (by omega)))]
theorem byt_mod (x k j : Nat) : byt (x % 2 ^ (8 * k)) j = if j < k then byt x j else 0 := by
  rw [byt_eq, byt_eq]
  have : bn (x % 2 ^ (8 * k)) j = if j < k then bn x j else 0 := by
    apply Nat.eq_of_testBit_eq; intro i
    rw [bn_bit, Nat.testBit_mod_two_pow]
    by_cases h : j < k
    · rw [if_pos h, bn_bit]
      by_cases hi : i < 8
      · rw [decide_eq_true (show 8 * j + i < 8 * k from by omega), Bool.true_and]
      · simp [hi]
    · rw [if_neg h, Nat.zero_testBit]
      by_cases hi : i < 8
      · rw [decide_eq_false (show ¬ 8 * j + i < 8 * k from by omega)]; simp
      · simp [hi]
  rw [this]; split <;> rfl
theorem hcs_ext {a b : Nat} (h : ∀ k, k < 32 → byt a k = byt b k) : hcs a = hcs b := by
  unfold hcs hls; congr 1; apply List.map_congr_left; intro k hk; rw [h k (List.mem_range.1 hk)]
theorem hcs_step (x k : Nat) : (hcs (x % 2 ^ (8 * k))).setIfInBounds k (.int .u8 (byt x k)) = hcs (x % 2 ^ (8 * (k + 1))) := by
  apply Array.ext
  · simp [hcs_size]
  · intro i h1 h2
    rw [hcs_size] at h2
    rw [Array.getElem_setIfInBounds]
    have e : ∀ n (h' : i < (hcs n).size), (hcs n)[i] = .int .u8 (byt n i) := by
      intro n h'; have := hcs_get n i h2; rw [Array.getElem?_eq_getElem h'] at this; exact Option.some.inj this
    by_cases hik : k = i
    · subst hik; rw [if_pos rfl, e, byt_mod, if_pos (by omega)]
    · rw [if_neg hik, e, e, byt_mod, byt_mod]
      by_cases h3 : i < k
      · rw [if_pos h3, if_pos (by omega)]
      · rw [if_neg h3, if_neg (by omega)]
    simpa [hcs_size] using h2
theorem hcs_zero : hcs 0 = (Array.replicate 32 (Value.int .u8 0)) := by
  apply Array.ext <;> simp [hcs, hls, byt]
/-- a part of b bits put into a number below it -/
theorem or_part (m i c b : Nat) (hm : m < 2 ^ i) (hc : c < 2 ^ b) (hb : i % 64 + b ≤ 64) :
    bits .or .u64 (wd m (i / 64)) (IntKind.u64.wrap ((c : Int) * 2 ^ (i % 64))) = wd (m + 2 ^ i * c) (i / 64) := by
  have hlt : c * 2 ^ (i % 64) < 2 ^ 64 := by
    have h1 : c * 2 ^ (i % 64) < 2 ^ b * 2 ^ (i % 64) := Nat.mul_lt_mul_of_pos_right hc (Nat.two_pow_pos _)
    rw [← Nat.pow_add] at h1
    exact Nat.lt_of_lt_of_le h1 (Nat.pow_le_pow_right (by decide) (by omega))
  rw [show (c : Int) * 2 ^ (i % 64) = ((c * 2 ^ (i % 64) : Nat) : Int) from by simp, u64_small _ hlt, wd_eq, or_u64 _ _ (wn_lt _ _) hlt, wd_eq]
  congr 1
  rw [Nat.add_comm m, Nat.two_pow_add_eq_or_of_lt hm, wn_or, Nat.or_comm]
  congr 1
  apply Nat.eq_of_testBit_eq; intro j
  rw [wn_bit, Nat.mul_comm c, Nat.testBit_two_pow_mul, Nat.testBit_two_pow_mul]
  by_cases hj : j < 64
  · rw [decide_eq_true hj, Bool.true_and]
    by_cases h2 : i % 64 ≤ j
    · rw [decide_eq_true h2, decide_eq_true (show i ≤ 64 * (i / 64) + j by omega)]
      congr 1; congr 1; omega
    · rw [decide_eq_false h2, decide_eq_false (show ¬ i ≤ 64 * (i / 64) + j by omega)]; simp
  · rw [decide_eq_false hj, Bool.false_and]
    have : c.testBit (j - i % 64) = false := Nat.testBit_lt_two_pow (Nat.lt_of_lt_of_le hc (Nat.pow_le_pow_right (by decide) (by omega)))
    rw [this]; simp
theorem wd_part_far (m i c b k : Nat) (hm : m < 2 ^ i) (hc : c < 2 ^ b) (hb : i % 64 + b ≤ 64) (hk : k ≠ i / 64) : wd (m + 2 ^ i * c) k = wd m k := by
  rw [wd_eq, wd_eq]
  congr 1
  rw [Nat.add_comm m, Nat.two_pow_add_eq_or_of_lt hm, wn_or]
  have : wn (2 ^ i * c) k = 0 := by
    apply Nat.eq_of_testBit_eq; intro j
    rw [wn_bit, Nat.testBit_two_pow_mul, Nat.zero_testBit]
    by_cases hj : j < 64
    · by_cases h2 : i ≤ 64 * k + j
      · have : c.testBit (64 * k + j - i) = false := Nat.testBit_lt_two_pow (Nat.lt_of_lt_of_le hc (Nat.pow_le_pow_right (by decide) (by omega)))
        rw [this]; simp
      · rw [decide_eq_false h2]; simp
    · rw [decide_eq_false hj]; simp
  rw [this, Nat.zero_or]
theorem wcs_part (m i c b : Nat) (hi : i < 256) (hm : m < 2 ^ i) (hc : c < 2 ^ b) (hb : i % 64 + b ≤ 64) : (wcs m).setIfInBounds (i / 64) (.int .u64 (wd (m + 2 ^ i * c) (i / 64))) = wcs (m + 2 ^ i * c) := by
  have far := fun k => wd_part_far m i c b k hm hc hb
  rcases (by omega : i / 64 = 0 ∨ i / 64 = 1 ∨ i / 64 = 2 ∨ i / 64 = 3) with h | h | h | h <;> rw [h] at far ⊢
  · rw [wcs, wcs, far 1 (by decide), far 2 (by decide), far 3 (by decide)]; rfl
  · rw [wcs, wcs, far 0 (by decide), far 2 (by decide), far 3 (by decide)]; rfl
  · rw [wcs, wcs, far 0 (by decide), far 1 (by decide), far 3 (by decide)]; rfl
  · rw [wcs, wcs, far 0 (by decide), far 1 (by decide), far 2 (by decide)]; rfl
/-- byte k of n out of its word -/
theorem byt_wd (n k : Nat) : (wd n (k / 8) / 2 ^ (8 * (k % 8))) % 256 = byt n k := by
  have e : wd n (k / 8) / 2 ^ (8 * (k % 8)) = ((wn n (k / 8) / 2 ^ (8 * (k % 8)) : Nat) : Int) := by
    rw [wd_eq, Int.natCast_ediv, Int.natCast_pow]; rfl
  rw [e, byt_eq]
  have : wn n (k / 8) / 2 ^ (8 * (k % 8)) % 2 ^ 8 = bn n k := by
    apply Nat.eq_of_testBit_eq; intro i
    rw [Nat.testBit_mod_two_pow, Nat.testBit_div_two_pow, wn_bit, bn_bit]
    by_cases hi : i < 8
    · rw [decide_eq_true hi, decide_eq_true (show i + 8 * (k % 8) < 64 by omega), Bool.true_and, Bool.true_and, Bool.true_and]
      congr 1; omega
    · rw [decide_eq_false hi]; simp
  omega
theorem i64_small8 (n : Int) (h0 : 0 ≤ n) (h1 : n < 2 ^ 8) : IntKind.i64.wrap n = n := by rw [IntKind.wrap_i64]; omega
theorem and7 (k : Nat) (h : k < 32) : bits .and .i64 (k : Int) 7 = (k : Int) % 8 :=
  bits_mask .i64 8 (by decide) i64_small8 3 (by decide) (k : Int) (by omega) (by omega)
theorem byt_wd' (n k : Nat) : (wd n (k / 8) / 2 ^ (k % 8 * 8)) % 256 = byt n k := by rw [Nat.mul_comm]; exact byt_wd n k

theorem mod_byte (h k : Nat) : h % 2 ^ (8 * (k + 1)) = h % 2 ^ (8 * k) + 2 ^ (8 * k) * bn h k := by
  unfold bn
  rw [show 2 ^ (8 * (k + 1)) = 2 ^ (8 * k) * 2 ^ 8 from Nat.pow_add 2 (8 * k) 8, Nat.mod_mul]
theorem of_or (h k : Nat) : bits .or .u64 (wd (h % 2 ^ (8 * k)) (k / 8)) (IntKind.u64.wrap (byt h k * 2 ^ (8 * (k % 8)))) = wd (h % 2 ^ (8 * (k + 1))) (k / 8) := by
  have := or_part (h % 2 ^ (8 * k)) (8 * k) (bn h k) 8 (Nat.mod_lt _ (Nat.two_pow_pos _)) (bn_lt h k) (by omega)
  rw [← mod_byte, show 8 * k / 64 = k / 8 from by omega, show 8 * k % 64 = 8 * (k % 8) from by omega] at this
  exact this
theorem of_or' (h k : Nat) : bits .or .u64 (wd (h % 2 ^ (8 * k)) (k / 8)) (IntKind.u64.wrap (byt h k * 2 ^ (k % 8 * 8))) = wd (h % 2 ^ (8 * (k + 1))) (k / 8) := by
  rw [Nat.mul_comm (k % 8) 8]; exact of_or h k
theorem of_cells (h k : Nat) (hk : k < 32) : (wcs (h % 2 ^ (8 * k))).setIfInBounds (k / 8) (.int .u64 (wd (h % 2 ^ (8 * (k + 1))) (k / 8))) = wcs (h % 2 ^ (8 * (k + 1))) := by
  have := wcs_part (h % 2 ^ (8 * k)) (8 * k) (bn h k) 8 (by omega) (Nat.mod_lt _ (Nat.two_pow_pos _)) (bn_lt h k) (by omega)
  rw [← mod_byte, show 8 * k / 64 = k / 8 from by omega] at this
  exact this

/-- an element of an array by value -/
theorem run_index_arr {P : Program} (t e : TypeId) (n i : Nat) (cs : Array Value) (v : Value) (w : World) (h : P.underlying t = some (.array n e)) (ha : ∀ w, (isAgg e).run P w = .ok false w) (hs : ∀ w, (Go.sizeOf e).run P w = .ok 1 w)
    (hi : i < n) (hv : cs[i]? = some v) : (Instr.index t (.agg cs) (.int .i64 (i : Int))).run P w = .ok v w := by
  have h1 : 0 ≤ (i : Int) ∧ (i : Int) < n := by omega
  unfold Instr.index
  simp only [asIntOf, Sem.run_bind, Sem.run_pure, Result.andThen_ok, run_underlying h, if_pos h1, part, ha, hs, Int.toNat_natCast, Nat.mul_one, hv, Bool.false_eq_true, if_false]
/-! ### whole arrays -/
theorem Blk.setCells {g : Nat} {t : TypeId} : ∀ (vs : List Value) (o : Nat) (w : World) (pre post : List Value), pre.length = o → post.length = vs.length → Blk w g (pre ++ post).toArray t → Blk (w.setCells g o vs) g (pre ++ vs).toArray t
  | [], _, _, _, post, _, h2, h => by
    have : post = [] := List.length_eq_zero_iff.1 h2
    subst this; exact h
  | v :: r, o, w, pre, post, h1, h2, h => by
    match post, h2, h with
    | p :: post, h2, h =>
      have e : (pre ++ p :: post).toArray.setIfInBounds o v = ((pre ++ [v]) ++ post).toArray := by
        subst h1; simp
      have h3 := h.set o v
      rw [e] at h3
      have := Blk.setCells r (o + 1) (w.setCell ⟨g, o, none⟩ v) (pre ++ [v]) post (by simp [h1]) (by simpa using h2) h3
      simpa [World.setCells] using this
theorem Blk.setAll {w : World} {g : Nat} {c : Array Value} {t : TypeId} (h : Blk w g c t) (vs : Array Value) (hs : c.size = vs.size) : Blk (w.setCells g 0 vs.toList) g vs t := by
  have := Blk.setCells (g := g) (t := t) vs.toList 0 w [] c.toList rfl (by simp [hs]) (by simpa using h)
  simpa using this
theorem heap_setCells {g k : Nat} (h : k ≠ g) : ∀ (vs : List Value) (o : Nat) (w : World), (w.setCells g o vs).heap[k]? = w.heap[k]?
  | [], _, _ => rfl
  | v :: r, o, w => (heap_setCells h r (o + 1) _).trans (Below.heap_setCell w ⟨g, o, none⟩ v k h)
theorem size_setCells {g : Nat} : ∀ (vs : List Value) (o : Nat) (w : World), (w.setCells g o vs).heap.size = w.heap.size
  | [], _, _ => rfl
  | _ :: r, o, _ => (size_setCells r (o + 1) _).trans (by simp [World.setCell])
theorem below_setCells {B g : Nat} {a : World} (hg : B ≤ g) : ∀ (vs : List Value) (o : Nat) (w : World), Below B a w → Below B a (w.setCells g o vs)
  | [], _, _, h => h
  | v :: r, o, _, h => below_setCells hg r (o + 1) _ (h.setCell (p := ⟨g, o, none⟩) hg v)
theorem Blk.there {w : World} {g : Nat} {c : Array Value} {t : TypeId} (h : Blk w g c t) : w.there g 0 c.size := fun j hj => by
  rw [h.cell, h.free]; simp; omega
/-- A WHOLE ARRAY IS READ out of a variable. -/
theorem wpl_load {P : Program} {ops : Array Oper} {rest : List Oper} {o : Oper} {a : Act} {w : World} {Q : Exit → Act → World → Prop} (hgd : o.guard = none) (ty : TypeId) (x : Operand) (ho : o.op = .load ty x)
    {g n : Nat} {e t : TypeId} {cs : Array Value} (hx : a.eval x = .pointer (some ⟨g, 0, none⟩)) (hg : Blk w g cs t)
    (hu : P.underlying ty = some (.array n e)) (hi : (P.info? ty).map (·.size) = some cs.size)
    (h : wpList P ops Q rest (a.put o.dst (.agg cs)) w) : wpList P ops Q (o :: rest) a w :=
  wpList_load_row hgd ty x ho g hx t cs (0, 0) (.array n e) hg hu rfl hi h
/-- A WHOLE ARRAY IS STORED into a variable. -/
theorem wpl_store {P : Program} {ops : Array Oper} {rest : List Oper} {o : Oper} {a : Act} {w : World} {Q : Exit → Act → World → Prop} (hgd : o.guard = none) (ty : TypeId) (x y : Operand) (ho : o.op = .store ty x y)
    {g : Nat} {t : TypeId} {cs vs : Array Value} (hx : a.eval x = .pointer (some ⟨g, 0, none⟩)) (hy : a.eval y = .agg vs) (hg : Blk w g cs t) (hs : cs.size = vs.size)
    (hi : (P.info? ty).map (·.size) = some vs.size) (h1 : vs.all (·.oneCell') = true)
    (h : wpList P ops Q rest (a.put o.dst undef) (w.setCells g 0 vs.toList)) : wpList P ops Q (o :: rest) a w :=
  wpList_store_mid hgd ty x y ho g 0 vs hx hy (hs ▸ hg.there) hi h1 h
theorem St.set {B : Nat} {W w : World} {b : Nat} {c : Array Value} {t : TypeId} {l : List (Nat × Array Value × TypeId)} (h : St B W w ((b, c, t) :: l)) (hB : B ≤ b) (hne : ∀ x ∈ l, x.1 ≠ b) (o : Nat) (v : Value) :
    St B W (w.setCell ⟨b, o, none⟩ v) ((b, c.setIfInBounds o v, t) :: l) :=
  ⟨h.below.setCell hB v, fun x hx => by
    rcases List.mem_cons.1 hx with rfl | hx
    · exact (h.at (b := b) (c := c) (t := t) (by simp)).set o v
    · exact (h.live x (List.mem_cons_of_mem _ hx)).setFar (a := ⟨b, o, none⟩) (hne x hx) v⟩
theorem St.setAll {B : Nat} {W w : World} {b : Nat} {c : Array Value} {t : TypeId} {l : List (Nat × Array Value × TypeId)} (h : St B W w ((b, c, t) :: l)) (hB : B ≤ b) (hne : ∀ x ∈ l, x.1 ≠ b) (vs : Array Value) (hs : c.size = vs.size) :
    St B W (w.setCells b 0 vs.toList) ((b, vs, t) :: l) :=
  ⟨below_setCells hB _ _ _ h.below, fun x hx => by
    rcases List.mem_cons.1 hx with rfl | hx
    · exact (h.at (b := b) (c := c) (t := t) (by simp)).setAll vs hs
    · exact (heap_setCells (hne x hx) _ _ _).trans (h.live x (List.mem_cons_of_mem _ hx))⟩
theorem St.perm {B : Nat} {W w : World} {l l' : List (Nat × Array Value × TypeId)} (h : St B W w l) (hs : l' ⊆ l) : St B W w l' := ⟨h.below, fun x hx => h.live x (hs hx)⟩
theorem St.new3' (w : World) (c0 c1 c2 : Array Value) (t0 t1 t2 : TypeId) : St w.heap.size w (((w.alloc (.cells c0 t0)).alloc (.cells c1 t1)).alloc (.cells c2 t2)) [(w.heap.size + 1 + 1, c2, t2), (w.heap.size + 1, c1, t1), (w.heap.size, c0, t0)] := by
  have h := (St.new2 w c0 c1 t0 t1).new c2 t2
  rw [show ((w.alloc (.cells c0 t0)).alloc (.cells c1 t1)).heap.size = w.heap.size + 1 + 1 from by simp] at h
  exact h
/-- A RESULT THAT IS A WHOLE ARRAY -/
theorem results_blk {P : Program} {fn : Func} {p : Tmp} {ty : TypeId} (h : fn.results = #[.cell p ty]) (tmps : Array Value) (w : World) {g n : Nat} {e t : TypeId} {cs : Array Value}
    (hp : tmps.getD p undef = .pointer (some ⟨g, 0, none⟩)) (hg : Blk w g cs t) (hu : P.underlying ty = some (.array n e)) (hi : (P.info? ty).map (·.size) = some cs.size) :
    (results fn tmps).run P w = .ok (.agg cs) w := results_cell_row h tmps w g t cs (0, 0) (.array n e) hp hg hu rfl hi
end Go.Proofs.YtgedpgdefafofaaDoor
end

section
/- '==' and '!=' on hashes; a law's argument of type api.Hash; no number of four words in sight. -/
namespace Go.Proofs.YtgedpgdefafofaaDoor
open Go Go.ChangeShapes Go.WideShapes Go.ChangeAt Go.RowKit

theorem isAgg_u8 (w : World) : (isAgg 5).run Tryd.prog w = .ok false w := by kernel_rfl
theorem sizeOf_u8 (w : World) : (Go.sizeOf 5).run Tryd.prog w = .ok 1 w := by kernel_rfl
theorem byt_all (a b : Nat) (ha : a < W256) (hb : b < W256) : ((List.range 32).all fun i => byt a i == byt b i) = (a == b) := by
  rw [W256_eq] at *
  rw [Bool.eq_iff_iff, List.all_eq_true, beq_iff_eq]
  constructor
  · intro h
    refine bn_ext ha hb fun k hk => ?_
    have := h k (List.mem_range.2 hk)
    rw [beq_iff_eq, byt_eq, byt_eq] at this
    omega
  · rintro rfl; simp
theorem heql (a b : Nat) (ha : a < W256) (hb : b < W256) (w : World) : (binOp .eql 24 (hv a) (hv b)).run Tryd.prog w = .ok (.bool (a == b)) w := by
  rw [← byt_all a b ha hb]
  exact run_eql_ints 24 5 32 .u8 .u8 (hcs a) (hcs b) (byt a) (byt b) w Tryd.underlying24 Tryd.underlying5 isAgg_u8 sizeOf_u8 (fun i hi => hcs_get a i hi) (fun i hi => hcs_get b i hi)
theorem hneq (a b : Nat) (ha : a < W256) (hb : b < W256) (w : World) : (binOp .neq 24 (hv a) (hv b)).run Tryd.prog w = .ok (.bool (a != b)) w := by
  rw [show (a != b) = !(a == b) from rfl, ← byt_all a b ha hb]
  exact run_neq_ints 24 5 32 .u8 .u8 (hcs a) (hcs b) (byt a) (byt b) w Tryd.underlying24 Tryd.underlying5 isAgg_u8 sizeOf_u8 (fun i hi => hcs_get a i hi) (fun i hi => hcs_get b i hi)
/-- 32 bytes are a number -/
def hnum (f : Nat → Int) : Nat → Nat
  | 0 => 0
  | n + 1 => hnum f n + 2 ^ (8 * n) * (f n).toNat
theorem hnum_lt (f : Nat → Int) : ∀ n, (∀ i, i < n → 0 ≤ f i ∧ f i ≤ 255) → hnum f n < 2 ^ (8 * n)
  | 0, _ => by simp [hnum]
  | n + 1, h => by
    have ih := hnum_lt f n (fun i hi => h i (by omega))
    obtain ⟨h0, h1⟩ := h n (by omega)
    have hf : (f n).toNat ≤ 255 := by omega
    have := Nat.mul_le_mul_left (2 ^ (8 * n)) hf
    rw [show 2 ^ (8 * (n + 1)) = 2 ^ (8 * n) * 2 ^ 8 from Nat.pow_add 2 (8 * n) 8]
    unfold hnum
    omega
theorem hnum_byte (f : Nat → Int) : ∀ n, (∀ i, i < n → 0 ≤ f i ∧ f i ≤ 255) → ∀ i, i < n → bn (hnum f n) i = (f i).toNat
  | 0, _, _, hi => by omega
  | n + 1, h, i, hi => by
    have hlt := hnum_lt f n (fun i hi => h i (by omega))
    obtain ⟨h0, h1⟩ := h n (by omega)
    unfold hnum
    by_cases hin : i < n
    · rw [← hnum_byte f n (fun i hi => h i (by omega)) i hin]
      unfold bn
      rw [show 2 ^ (8 * n) * (f n).toNat = 2 ^ (8 * i) * (2 ^ (8 * (n - i)) * (f n).toNat) from by rw [← Nat.mul_assoc, ← Nat.pow_add]; congr 2; omega]
      rw [Nat.add_mul_div_left _ _ (Nat.two_pow_pos _)]
      rw [show 2 ^ (8 * (n - i)) * (f n).toNat = 2 ^ 8 * (2 ^ (8 * (n - i) - 8) * (f n).toNat) from by rw [← Nat.mul_assoc, ← Nat.pow_add]; congr 2; omega]
      rw [Nat.add_mul_mod_self_left]
    · obtain rfl : i = n := by omega
      unfold bn
      rw [Nat.add_mul_div_left _ _ (Nat.two_pow_pos _), Nat.div_eq_of_lt hlt, Nat.zero_add]
      omega
theorem hls_of (f : Nat → Int) (h : ∀ i, i < 32 → 0 ≤ f i ∧ f i ≤ 255) : ((List.range 32).map fun i => Value.int .u8 (f i)) = hls (hnum f 32) := by
  unfold hls
  apply List.map_congr_left
  intro i hi
  rw [byt_eq, hnum_byte f 32 h i (List.mem_range.1 hi)]
  have := h i (List.mem_range.1 hi)
  congr 1; omega
set_option maxRecDepth 100000 in
theorem open_hash {H : Type} {enc : TypeId × Value → H} {w : World} {base b0 : Nat} {spare : Nat → Bool} {held : Bool} {r : Reach} {v : Value} {d : DataW H} {p : List MemPlace}
    (hv : Value.okWide Tryd.prog w r b0 24 v) (h : DataW.Trod enc Tryd.prog w base spare held 24 v d p) : ∃ n, n < W256 ∧ v = .agg (hcs n) := by
  obtain ⟨f, rfl, hw⟩ := open_arr (n := 32) (k := .u8) Tryd.underlying24 Tryd.underlying5 (by kernel_rfl) (by kernel_rfl) hv h
  have b : ∀ i, i < 32 → 0 ≤ f i ∧ f i ≤ 255 := fun i hi => by first | exact bounds_u8 (hw i hi) | (have := hw i hi; simp [Lit.wf, IntKind.min, IntKind.max] at this; omega)
  refine ⟨hnum f 32, hnum_lt f 32 b, ?_⟩
  unfold hcs
  rw [← hls_of f b]
end Go.Proofs.YtgedpgdefafofaaDoor
end
