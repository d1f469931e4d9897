/- Data that came in, of any plain type: what its cells hold. The bulk bounds every length. -/
import Derived.Test.YtppcccocnmhbgaaOpenBase
import Derived.Test.YtppcccocnmhbgaaMem
import Derived.Test.YtppcccocnmhbgaaRows
import Derived.Deep.Slices
import Derived.Deep.Strs
namespace Go.Proofs.Ytppcccocnmhbgaa
open Go Go.ChangeShapes Go.WideShapes Go.ChangeAt Go.RowKit
set_option linter.unusedVariables false

/-- are all types that t reaches plain ones? -/
def plainTy (P : Program) : Nat → TypeId → Bool
  | 0, _ => false
  | f + 1, t => match P.underlying t with
    | some (.int _) => true
    | some .bool => true
    | some .string => true
    | some (.slice e) => decide (0 < P.cellsOf e) && plainTy P f e
    | some (.struct fs) => fs.toList.all fun x => plainTy P f x.type
    | some (.array _ e) => plainTy P f e
    | _ => false
/-- cells from an address on -/
def CellsAt (w : World) (b o : Nat) (cs : List Value) : Prop := ∀ j, j < cs.length → w.cell? ⟨b, o + j, none⟩ = cs[j]?
/-- these cells are a value of type t, and what it leads to is there; no length beyond M -/
def Ok (P : Program) (w : World) (M : Nat) : Nat → TypeId → List Value → Prop
  | 0, _, _ => False
  | f + 1, t, cs => match P.underlying t with
    | some (.int k) => ∃ z, cs = [.int k z] ∧ (Lit.int k z).wf = true
    | some .bool => ∃ b, cs = [.bool b]
    | some .string => ∃ s : ByteArray, cs = [.string s] ∧ s.size ≤ M
    | some (.slice e) => ∃ a len cap, cs = [.slice a len cap] ∧ len ≤ cap ∧ cap ≤ M ∧ (a = none → cap = 0) ∧ ∀ i, i < len → ∃ b o cs', a = some ⟨b, o, none⟩ ∧ cs'.length = P.cellsOf e ∧ CellsAt w b (o + i * P.cellsOf e) cs' ∧ Ok P w M f e cs'
    | some (.struct fs) => cs.length = P.cellsOf t ∧ ∀ (i : Nat) x, fs[i]? = some x → Ok P w M f x.type ((cs.drop x.offset).take (P.cellsOf x.type))
    | some (.array n e) => cs.length = P.cellsOf t ∧ ∀ i, i < n → Ok P w M f e ((cs.drop (i * P.cellsOf e)).take (P.cellsOf e))
    | _ => False
section
variable {P : Program} {w : World} {M f : Nat} {t : TypeId} {cs : List Value}
theorem Ok.int {k : IntKind} (ht : P.underlying t = some (.int k)) (h : Ok P w M (f + 1) t cs) : ∃ z, cs = [.int k z] ∧ (Lit.int k z).wf = true := by
  unfold Ok at h; rw [ht] at h; exact h
theorem Ok.bool (ht : P.underlying t = some .bool) (h : Ok P w M (f + 1) t cs) : ∃ b, cs = [.bool b] := by
  unfold Ok at h; rw [ht] at h; exact h
theorem Ok.string (ht : P.underlying t = some .string) (h : Ok P w M (f + 1) t cs) : ∃ s : ByteArray, cs = [.string s] ∧ s.size ≤ M := by
  unfold Ok at h; rw [ht] at h; exact h
theorem Ok.slice {e : TypeId} (ht : P.underlying t = some (.slice e)) (h : Ok P w M (f + 1) t cs) : ∃ a len cap, cs = [.slice a len cap] ∧ len ≤ cap ∧ cap ≤ M ∧ (a = none → cap = 0) ∧ ∀ i, i < len → ∃ b o cs', a = some ⟨b, o, none⟩ ∧ cs'.length = P.cellsOf e ∧ CellsAt w b (o + i * P.cellsOf e) cs' ∧ Ok P w M f e cs' := by
  unfold Ok at h; rw [ht] at h; exact h
theorem Ok.struct {fs : Array Field} (ht : P.underlying t = some (.struct fs)) (h : Ok P w M (f + 1) t cs) : cs.length = P.cellsOf t ∧ ∀ (i : Nat) x, fs[i]? = some x → Ok P w M f x.type ((cs.drop x.offset).take (P.cellsOf x.type)) := by
  unfold Ok at h; rw [ht] at h; exact h
theorem Ok.array {n : Nat} {e : TypeId} (ht : P.underlying t = some (.array n e)) (h : Ok P w M (f + 1) t cs) : cs.length = P.cellsOf t ∧ ∀ i, i < n → Ok P w M f e ((cs.drop (i * P.cellsOf e)).take (P.cellsOf e)) := by
  unfold Ok at h; rw [ht] at h; exact h
theorem CellsAt.below {w w' : World} {b o : Nat} {cs : List Value} (h : CellsAt w b o cs) (hb : Below w.heap.size w w') : CellsAt w' b o cs := fun j hj => by
  have h1 := h j hj
  rw [List.getElem?_eq_getElem hj] at h1 ⊢
  exact (hb.cell (p := ⟨b, o + j, none⟩) (cell_lt h1)).trans h1
theorem Ok.below {w' : World} (hb : Below w.heap.size w w') : ∀ {f : Nat} {t : TypeId} {cs : List Value}, Ok P w M f t cs → Ok P w' M f t cs
  | 0, _, _, h => h
  | f + 1, t, cs, h => by
    unfold Ok at h ⊢
    split at h
    · exact h
    · exact h
    · exact h
    · obtain ⟨a, len, cap, h1, h2, h3, h4, h5⟩ := h
      exact ⟨a, len, cap, h1, h2, h3, h4, fun i hi => by
        obtain ⟨b, o, cs', e1, e2, e3, e4⟩ := h5 i hi
        exact ⟨b, o, cs', e1, e2, e3.below hb, Ok.below hb e4⟩⟩
    · exact ⟨h.1, fun i x hx => Ok.below hb (h.2 i x hx)⟩
    · exact ⟨h.1, fun i hi => Ok.below hb (h.2 i hi)⟩
    · exact h
end
theorem bulk_part {H : Type} {d : DataW H} {l : List (DataW H)} (h : d ∈ l) : Rows.uptoBulk d ≤ Rows.uptoBulkAll l := by
  induction l with
  | nil => cases h
  | cons x r ih =>
    simp only [Rows.uptoBulkAll]
    cases List.mem_cons.1 h with
    | inl e => subst e; omega
    | inr e => have := ih e; omega
theorem bulk_one {H : Type} (d : DataW H) : 1 ≤ Rows.uptoBulk d := by
  cases d with
  | lit l => cases l <;> simp [Rows.uptoBulk]
  | nil => simp [Rows.uptoBulk]
  | ptr d => simp [Rows.uptoBulk]
  | slice elems spare => simp [Rows.uptoBulk]
  | agg parts => simp [Rows.uptoBulk]
  | iface t d => simp [Rows.uptoBulk]
  | map entries => simp [Rows.uptoBulk]
  | held h => simp [Rows.uptoBulk]
theorem bulk_length {H : Type} (l : List (DataW H)) : l.length ≤ Rows.uptoBulkAll l := by
  induction l with
  | nil => simp [Rows.uptoBulkAll]
  | cons x r ih => have := bulk_one x; simp only [Rows.uptoBulkAll, List.length_cons]; omega
/-- WHAT CAME IN, of a plain type -/
theorem ok_of_trod {H : Type} {enc : TypeId × Value → H} {P : Program} {w : World} {M : Nat} : ∀ {f n : Nat} {t : TypeId} {cs : List Value} {x : DataW H × List MemPlace},
    plainTy P f t = true → DataW.trod enc P w 0 (fun _ => true) true n t cs = some x → Rows.uptoBulk x.1 ≤ M → Ok P w M f t cs
  | 0, _, _, _, _, h, _, _ => by simp [plainTy] at h
  | f + 1, n, t, cs, x, hp, h, hM => by
    unfold plainTy at hp
    unfold Ok
    split at hp <;> rename_i hu
    · obtain ⟨z, h1, _, h2⟩ := DataW.trod_int hu h
      exact ⟨z, h1, h2⟩
    · obtain ⟨b, h1, _⟩ := DataW.trod_bool hu h
      exact ⟨b, h1⟩
    · obtain ⟨s, h1, rfl, _⟩ := DataW.trod_string hu h
      refine ⟨s, h1, ?_⟩
      have e : s.data.toList.length = s.size := by rw [Array.length_toList]; rfl
      simp only [Rows.uptoBulk] at hM
      omega
    · rw [Bool.and_eq_true] at hp
      obtain ⟨hp0, hp⟩ := hp
      have hp0 := of_decide_eq_true hp0
      rcases Go.Deep.open_slice hu h with ⟨rfl, _⟩ | ⟨a, len, cap, m, n', D, Pl, rfl, _, hl, hm, hmm, rfl, hi⟩
      · exact ⟨none, 0, 0, rfl, Nat.le_refl _, Nat.zero_le _, fun _ => rfl, fun i hi => by omega⟩
      · simp only [if_true] at hmm
        subst hmm
        have h1 := bulk_length ((List.range len).map D)
        have h2 := bulk_length ((List.range (m - len)).map fun j => D (len + j))
        simp only [Rows.uptoBulk] at hM
        simp only [List.length_map, List.length_range] at h1 h2
        refine ⟨some a, len, m, rfl, hl, by omega, fun h => (by cases h), fun i hlt => ?_⟩
        obtain ⟨cs', hc, ht'⟩ := hi i (by omega)
        obtain ⟨_, hcl, hat⟩ := World.cells?_some hc
        have hD : Rows.uptoBulk (D i) ≤ M := by
          have := bulk_part (List.mem_map.2 ⟨i, List.mem_range.2 hlt, rfl⟩ : D i ∈ (List.range len).map D)
          omega
        have hOk := ok_of_trod hp ht' hD
        obtain ⟨b, o, s⟩ := a
        obtain ⟨cs0, hc0, _⟩ := hi 0 (by omega)
        obtain ⟨_, hcl0, hat0⟩ := World.cells?_some hc0
        have hat0 := hat0 0 hp0
        rw [List.getElem?_eq_getElem (by omega)] at hat0
        obtain rfl : s = none := by simpa [Addr.add] using World.cell?_spot hat0
        refine ⟨b, o, cs', rfl, hcl, fun j hj => ?_, hOk⟩
        have := hat j (by omega)
        rw [Go.Deep.add_add, Addr.add_lit, ← Nat.add_assoc] at this
        exact this
    · obtain ⟨xs, n', _, rfl, hl, hlen, hf⟩ := DataW.trod_struct hu h
      refine ⟨hl, fun i fd hfd => ?_⟩
      have hi := (Array.getElem?_eq_some_iff.1 hfd).1
      have h1 := hf i fd hfd
      rw [List.getElem?_eq_getElem (by omega)] at h1
      refine ok_of_trod (List.all_eq_true.1 hp fd (by
        rw [Array.mem_toList_iff]; exact Array.mem_of_getElem? hfd)) h1 ?_
      have := bulk_part (List.mem_map.2 ⟨xs[i]'(by omega), List.getElem_mem (by omega), rfl⟩ : (xs[i]'(by omega)).1 ∈ xs.map (·.1))
      simp only [Rows.uptoBulk] at hM
      omega
    · obtain ⟨xs, n', _, rfl, hl, hlen, hf⟩ := DataW.trod_array hu h
      refine ⟨hl, fun i hi => ?_⟩
      have h1 := hf i hi
      rw [List.getElem?_eq_getElem (by omega)] at h1
      refine ok_of_trod hp h1 ?_
      have := bulk_part (List.mem_map.2 ⟨xs[i]'(by omega), List.getElem_mem (by omega), rfl⟩ : (xs[i]'(by omega)).1 ∈ xs.map (·.1))
      simp only [Rows.uptoBulk] at hM
      omega
    · simp at hp
end Go.Proofs.Ytppcccocnmhbgaa
