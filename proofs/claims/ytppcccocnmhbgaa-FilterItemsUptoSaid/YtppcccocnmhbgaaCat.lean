/- Rows of elements of one cell: a row with room; slices in a slice. No program in sight. -/
import Derived.Test.YtppcccocnmhbgaaRowV
import Derived.Lib.AppendZerosOnto
namespace Go.Proofs.Ytppcccocnmhbgaa
open Go Go.RowKit

/-- 'append(nil[:0], make(n)..)': a row of noughts, cut to nothing, has room -/
theorem run_append_room_nil {P : Program} (w : World) (t tn ty e : TypeId) (i : TypeInfo) (z : Value) (ht : P.underlying t = some (.slice e)) (htn : P.underlying tn = some (.int .i64)) (hi : P.info? e = some i) (hz : i.zero = some z) (hs : i.size = 1) (hzs : z.cells.size = 1) (n : Nat) (h0 : 0 < n) (hb : n * i.bytes ≤ 140737488355328) (hn : n ≤ 4611686018427387904) :
    ∃ g cap w', (Builtin.append_ #[t, tn] ty #[.slice none 0 0, .int .i64 (n : Int)]).run P w = .ok (.slice (some ⟨g, 0, none⟩) n cap) w' ∧ RowV w' e 1 (.slice (some ⟨g, 0, none⟩) 0 cap) 0 [] (some g) ∧ n ≤ cap ∧ cap ≤ maxLen ∧ w.heap.size ≤ g ∧ Below w.heap.size w w' := by
  have hr := Lib.run_append_grow_zeros w t tn ty e i z .i64 .i64 ht htn hi hz none 0 0 [] (run_firstCells_none w.drew i.size 0 0 0) n h0 (by omega) (by omega) (by omega) (by omega) (growslice_fits (by omega) (by rw [Nat.zero_add]; exact hb))
  rw [Nat.zero_add] at hr
  refine ⟨_, _, _, hr, ⟨by simp, .inr ⟨w.heap.size, _, _, rfl, rfl, Blk.new w.drew _ e, Nat.zero_le _, ?_, ?_, by simp⟩⟩, grownCap_ge _ _ _ _, ?_, Nat.le_refl _, ((Below.refl w.heap.size w).drew).alloc (Nat.le_refl _) _⟩
  · have := grownCap_ge w n 0 e
    simp [Builtin.zeroCells, hzs]
    omega
  · exact grownCap_le_maxLen w n 0 e (by unfold maxLen; omega)
  · exact grownCap_le_maxLen w n 0 e (by unfold maxLen; omega)
def lenL (L : Nat → Nat) : Nat → Nat
  | 0 => 0
  | n + 1 => lenL L n + L n
def catL (cs : Nat → List Value) : Nat → List Value
  | 0 => []
  | n + 1 => catL cs n ++ cs n
theorem lenL_mono (L : Nat → Nat) {a b : Nat} (h : a ≤ b) : lenL L a ≤ lenL L b := by
  induction h with
  | refl => exact Nat.le_refl _
  | step _ ih => exact Nat.le_trans ih (Nat.le_add_right _ _)
/-- n slices in a slice, each of elements of one cell -/
def CatIn (w : World) (q : Option Addr) (n : Nat) (A : Nat → Option Addr) (L C : Nat → Nat) (cs : Nat → List Value) : Prop :=
  ∀ i, i < n → ∃ b o, q = some ⟨b, o, none⟩ ∧ w.cell? ⟨b, o + i, none⟩ = some (.slice (A i) (L i) (C i)) ∧ (cs i).length = L i ∧ (∀ u ∈ cs i, u.oneCell' = true) ∧ (0 < L i → ∃ pb po, A i = some ⟨pb, po, none⟩ ∧ ∀ j u, (cs i)[j]? = some u → w.cell? ⟨pb, po + j, none⟩ = some u)
theorem CatIn.below {w w' : World} {q : Option Addr} {n : Nat} {A : Nat → Option Addr} {L C : Nat → Nat} {cs : Nat → List Value} (h : CatIn w q n A L C cs) (hb : Below w.heap.size w w') : CatIn w' q n A L C cs := fun i hi => by
  obtain ⟨b, o, h1, h2, h3, h4, h5⟩ := h i hi
  refine ⟨b, o, h1, (hb.cell (p := ⟨b, o + i, none⟩) (cell_lt h2)).trans h2, h3, h4, fun h0 => ?_⟩
  obtain ⟨pb, po, e1, e2⟩ := h5 h0
  exact ⟨pb, po, e1, fun j u hu => (hb.cell (p := ⟨pb, po + j, none⟩) (cell_lt (e2 j u hu))).trans (e2 j u hu)⟩
/-- append onto a row, also of nothing -/
theorem rowV_appendN {P : Program} {w : World} {e : TypeId} {v : Value} {n : Nat} {cs : List Value} {o : Option Nat} (t ty : TypeId) (i : TypeInfo) (z : Value) {by1 : Nat} (ht : P.underlying t = some (.slice e)) (hi : P.info? e = some i) (hz : i.zero = some z) (hs : i.size = 1) (hby : i.bytes = by1) (hzs : z.cells.size = 1)
    (h : RowV w e 1 v n cs o) {p : Option Addr} {m c : Nat} {news : List Value} (hl : news.length = m) (h1 : ∀ u ∈ news, u.oneCell' = true) (hp : 0 < m → ∃ pb po, p = some ⟨pb, po, none⟩ ∧ ∀ j u, news[j]? = some u → w.cell? ⟨pb, po + j, none⟩ = some u) (hmax : n + m ≤ maxLen) (hb : (n + m) * by1 ≤ 140737488355328) :
    ∃ v' w' o', (Builtin.append_ #[t, t] ty #[v, .slice p m c]).run P w = .ok v' w' ∧ RowV w' e 1 v' (n + m) (cs ++ news) o' ∧ (o' = o ∨ ∃ g', o' = some g' ∧ w.heap.size ≤ g') ∧ Keep (fun k => o = some k) w w' := by
  by_cases h0 : 0 < m
  · obtain ⟨pb, po, rfl, hc⟩ := hp h0
    obtain ⟨v', w', g', r1, r2, r3, r4⟩ := rowV_append (P := P) t ty i z ht hi hz hs hby hzs (by decide) h (a := ⟨pb, po, none⟩) (m := m) (c := c) (news := news) (by omega) (fun j u hu => by rw [Addr.add_lit]; exact hc j u hu) h1 h0 hmax hb
    exact ⟨v', w', some g', r1, r2, r3.imp (fun h => h.symm) (fun h => ⟨g', rfl, h⟩), r4⟩
  · obtain rfl : m = 0 := by omega
    obtain rfl : news = [] := List.eq_nil_of_length_eq_zero hl
    obtain ⟨q, c2, rfl, hle, hc2, _⟩ := h.form
    refine ⟨_, w, o, ?_, by rw [List.append_nil]; exact h, .inl rfl, Keep.refl _ _⟩
    cases q <;> cases p <;> simp [Builtin.append_, run_underlying ht, sizeOf, typeInfo, hi, Builtin.lenOf, hle, Builtin.firstCells, loadCells, loadCellsFrom, storeCells]
theorem own_step {w0 w w' : World} {G : Nat} {o o' : Option Nat} (hG : w0.heap.size = G) (hb : Below G w0 w) (ho : ∀ g, o = some g → G ≤ g) (h : o' = o ∨ ∃ g', o' = some g' ∧ w.heap.size ≤ g') (hk : Keep (fun k => o = some k) w w') : (∀ g, o' = some g → G ≤ g) ∧ Below G w0 w' := by
  subst hG
  refine ⟨fun g hg => ?_, hb.trans (hk.below hb.size (fun k hk => ho k hk))⟩
  rcases h with h | ⟨g', h1, h2⟩
  · exact ho g (h ▸ hg)
  · rw [h1] at hg; cases hg; have := hb.size; omega
end Go.Proofs.Ytppcccocnmhbgaa
