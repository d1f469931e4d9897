import Derived.Test.YtgedpgdefafofaaDoorVh1
import Derived.Lib.AppendZerosOnto
import Derived.Shelf.Bits.Mul64
import Derived.Ground.SlbCloneProg
import Derived.Shelf.Bytes.SlClone
import Derived.Test.YtgedpgdefafofaaDoorProg
import Derived.Test.YtgedpgdefafofaaDoorRows
import Derived.BigQuiet
import Derived.WalkMore
import Derived.ScopeJumps
import Derived.Deep.LoopGhost
section
/- A slice of elements of any kind, in a block of its own. No program in sight. -/
namespace Go.Proofs.YtgedpgdefafofaaDoor
open Go Go.RowKit

/-- v is a slice of n elements of k cells each, the cells cs: nil (o = none), or from the head of block g on (o = some g) -/
def RowV (w : World) (e : TypeId) (k : Nat) (v : Value) (n : Nat) (cs : List Value) (o : Option Nat) : Prop :=
  cs.length = n * k ∧ ((v = .slice none 0 0 ∧ n = 0 ∧ o = none) ∨ ∃ g cap cur, o = some g ∧ v = .slice (some ⟨g, 0, none⟩) n cap ∧ Blk w g cur e ∧ n ≤ cap ∧ cap * k ≤ cur.size ∧ cap ≤ maxLen ∧ cur.toList.take (n * k) = cs)
section
variable {w w' : World} {e : TypeId} {k : Nat} {v : Value} {n : Nat} {cs : List Value} {o : Option Nat} {g : Nat}
theorem RowV.nil (w : World) (e : TypeId) (k : Nat) : RowV w e k (.slice none 0 0) 0 [] none := ⟨by simp, .inl ⟨rfl, rfl, rfl⟩⟩
theorem RowV.keep {X : Nat → Prop} (h : RowV w e k v n cs o) (hk : Keep X w w') (hn : ∀ g, o = some g → ¬ X g) : RowV w' e k v n cs o := by
  obtain ⟨hl, h | ⟨g, cap, cur, h0, h1, h2, h3⟩⟩ := h
  · exact ⟨hl, .inl h⟩
  · exact ⟨hl, .inr ⟨g, cap, cur, h0, h1, hk.blk h2 (hn g h0), h3⟩⟩
theorem RowV.lt (h : RowV w e k v n cs o) : ∀ g, o = some g → g < w.heap.size := by
  intro g hg
  obtain ⟨hl, ⟨_, _, h0⟩ | ⟨g', cap, cur, h0, h1, h2, h3⟩⟩ := h
  · rw [h0] at hg; cases hg
  · rw [h0] at hg; cases hg; exact h2.lt
/-- what it looks like -/
theorem RowV.form (h : RowV w e k v n cs o) : ∃ p c, v = .slice p n c ∧ n ≤ c ∧ c ≤ maxLen ∧ (p = none ∧ n = 0 ∧ c = 0 ∧ o = none ∨ ∃ g, o = some g ∧ p = some ⟨g, 0, none⟩ ∧ g < w.heap.size) := by
  obtain ⟨hl, ⟨rfl, rfl, rfl⟩ | ⟨g, cap, cur, h0, h1, h2, h3, h4, h5, h6⟩⟩ := h
  · exact ⟨none, 0, rfl, Nat.le_refl _, Nat.zero_le _, .inl ⟨rfl, rfl, rfl, rfl⟩⟩
  · exact ⟨_, cap, h1, h3, h5, .inr ⟨g, h0, rfl, h2.lt⟩⟩
/-- one that has elements lies in a block -/
theorem RowV.mem (h : RowV w e k v n cs o) (h0 : 0 < n) : ∃ g cap, o = some g ∧ v = .slice (some ⟨g, 0, none⟩) n cap ∧ n ≤ cap ∧ cap ≤ maxLen ∧ g < w.heap.size ∧ (∀ j, j < n * k → w.cell? ⟨g, j, none⟩ = cs[j]?) ∧ (∀ j, w.frozen? ⟨g, j, none⟩ = false) := by
  obtain ⟨hl, ⟨rfl, rfl, rfl⟩ | ⟨g, cap, cur, h0, h1, h2, h3, h4, h5, h6⟩⟩ := h
  · omega
  · exact ⟨g, cap, h0, h1, h3, h5, h2.lt, fun j hj => by rw [h2.cell, ← h6, List.getElem?_take, if_pos hj]; simp, fun j => h2.free j⟩
/-- a cell of it set -/
theorem RowV.set {cap : Nat} (h : RowV w e k (.slice (some ⟨g, 0, none⟩) n cap) n cs (some g)) (j : Nat) (u : Value) (_ : j < n * k) : RowV (w.setCell ⟨g, j, none⟩ u) e k (.slice (some ⟨g, 0, none⟩) n cap) n (cs.set j u) (some g) := by
  obtain ⟨hl, ⟨h1, _, _⟩ | ⟨g', cap', cur, h0, h1, h2, h3, h4, h5, h6⟩⟩ := h
  · cases h1
  · cases h0; cases h1
    refine ⟨by simp [hl], .inr ⟨g, cap, _, rfl, rfl, h2.set j u, h3, by simpa using h4, h5, ?_⟩⟩
    rw [← h6]; simp [List.take_set]
theorem RowV.toRow {xs : List Int} (h : RowV w e 1 v n (u8s xs) o) : Row w e v xs o := by
  obtain ⟨hl, h⟩ := h
  rw [u8s_length, Nat.mul_one] at hl
  subst hl
  rcases h with ⟨h1, h2, h3⟩ | ⟨g, cap, cur, h0, h1, h2, h3, h4, h5, h6⟩
  · exact .inl ⟨h1, List.eq_nil_of_length_eq_zero h2, h3⟩
  · exact .inr ⟨g, cap, cur, h0, h1, h2, h3, by omega, h5, by simpa using h6⟩
theorem RowV.of_owns {B : Nat} (h : w.ownsRow B e k v n cs) : ∃ o, RowV w e k v n cs o ∧ (∀ g, o = some g → B ≤ g ∧ g < w.heap.size) ∧ (0 < n → ∃ g, o = some g) := by
  obtain ⟨hl, h⟩ := h
  rcases h with ⟨rfl, h0⟩ | ⟨g, cap, cur, rfl, hB, hg, h3, h4, h5, h6⟩
  · exact ⟨none, ⟨hl, .inl ⟨rfl, h0, rfl⟩⟩, fun g hg => by (cases hg), fun h => by omega⟩
  · exact ⟨some g, ⟨hl, .inr ⟨g, cap, cur, rfl, rfl, hg, h3, by omega, h4, h6⟩⟩, fun g' hg' => by (cases hg'; exact ⟨hB, (Array.getElem?_eq_some_iff.1 hg).1⟩), fun _ => ⟨g, rfl⟩⟩

/-- THE LAW OF APPEND onto such a row, out of whatever cells -/
theorem rowV_append {P : Program} (t ty : TypeId) (i : TypeInfo) (z : Value) {by1 : Nat} (ht : P.underlying t = some (.slice e)) (hi : P.info? e = some i) (hz : i.zero = some z) (hs : i.size = k) (hby : i.bytes = by1) (hzs : z.cells.size = k) (hk : 0 < k)
    (h : RowV w e k v n cs o) {a : Addr} {m c : Nat} {news : List Value} (hl : news.length = m * k) (hnews : ∀ j u, news[j]? = some u → w.cell? (a.add j) = some u) (h1 : ∀ u ∈ news, u.oneCell' = true) (hm : 0 < m) (hmax : n + m ≤ maxLen) (hb : (n + m) * by1 ≤ 140737488355328) :
    ∃ v' w' g', (Builtin.append_ #[t, t] ty #[v, .slice (some a) m c]).run P w = .ok v' w' ∧ RowV w' e k v' (n + m) (cs ++ news) (some g') ∧ (o = some g' ∨ w.heap.size ≤ g') ∧ Keep (fun k => o = some k) w w' := by
  obtain ⟨hlc, ⟨rfl, rfl, rfl⟩ | ⟨g, cap, cur, rfl, rfl, h2, h3, h4, h5, h6⟩⟩ := h
  · obtain rfl : cs = [] := List.eq_nil_of_length_eq_zero (by simpa using hlc)
    obtain ⟨v', w', r1, r2, r3, r4⟩ := run_append_own (P := P) w w.heap.size t ty e i z k by1 ht hi hz hs hby hzs hk (.slice none 0 0) 0 [] (World.ownsRow_nil w _ e k) a m c news hl hnews h1 hmax hb (Nat.le_refl _)
    obtain ⟨o', q1, q2, q3⟩ := RowV.of_owns r2
    obtain ⟨g', rfl⟩ := q3 (by omega)
    exact ⟨v', w', g', r1, q1, .inr (q2 g' rfl).1, Keep.of_grown r3 (fun g hg => by simp [Value.ownBlock] at hg)⟩
  · by_cases hroom : n + m ≤ cap
    · subst hs
      have hfit : (n + m) * i.size ≤ cap * i.size := Nat.mul_le_mul_right _ hroom
      rw [Nat.add_mul] at hfit
      have hlt : ∀ j, j < news.length → 0 + n * i.size + j < cur.size := by intro j hj; omega
      have hr := run_append_room_cells (P := P) w t ty e i ht hi g 0 n cap a m c news hl hnews h1 hroom
        (fun j hj => by rw [h2.cell, Array.getElem?_eq_getElem (hlt j hj)]; rfl) (fun j _ => h2.free _)
      refine ⟨_, _, g, hr, ⟨?_, .inr ⟨g, cap, (cur.toList.take (n * i.size) ++ news ++ cur.toList.drop (n * i.size + news.length)).toArray, rfl, rfl, ?_, hroom, ?_, h5, ?_⟩⟩, .inl rfl, Keep.setCells (X := fun k => some g = some k) (.inl rfl) _ _ (Keep.refl _ _)⟩
      · rw [List.length_append, hlc, hl, Nat.add_mul]
      · rw [show 0 + n * i.size = n * i.size from by omega]
        exact h2.setMid (n * i.size) news (by omega)
      · simp; omega
      · rw [List.toList_toArray, Nat.add_mul, ← hl, take_setCells _ _ _ (by simp; omega), h6]
    · obtain ⟨v', w', r1, r2, r3⟩ := run_append_arg_grows (P := P) w t ty e i z k by1 ht hi hz hs hby hzs hk ⟨g, 0, none⟩ n cap cs hlc
        (fun j u hu => by
          have hj : j < n * k := by have := (List.getElem?_eq_some_iff.1 hu).1; omega
          rw [Addr.add_lit, Nat.zero_add, h2.cell, ← hu, ← h6, List.getElem?_take, if_pos hj]; simp)
        a m c news hl hnews (by omega) hmax hb
      obtain ⟨o', q1, q2, q3⟩ := RowV.of_owns r2
      obtain ⟨g', rfl⟩ := q3 (by omega)
      exact ⟨v', w', g', r1, q1, .inr (q2 g' rfl).1, Keep.of_grown r3 (fun g hg => by cases hg)⟩
/-- ONE element of one cell, laid in a block of its own first, as 'append(xs, x)' does -/
theorem rowV_append1 {P : Program} (t ty : TypeId) (i : TypeInfo) (z : Value) {by1 : Nat} (ht : P.underlying t = some (.slice e)) (hi : P.info? e = some i) (hz : i.zero = some z) (hs : i.size = 1) (hby : i.bytes = by1) (hzs : z.cells.size = 1)
    (h : RowV w e 1 v n cs o) (u : Value) (hu : u.oneCell' = true) (hmax : n + 1 ≤ maxLen) (hb : (n + 1) * by1 ≤ 140737488355328) :
    ∃ g' cap' w', (Builtin.append_ #[t, t] ty #[v, .slice (some ⟨w.heap.size, 0, none⟩) 1 1]).run P (w.alloc (.cells #[u] e)) = .ok (.slice (some ⟨g', 0, none⟩) (n + 1) cap') w' ∧ RowV w' e 1 (.slice (some ⟨g', 0, none⟩) (n + 1) cap') (n + 1) (cs ++ [u]) (some g') ∧ (o = some g' ∨ w.heap.size ≤ g') ∧ Keep (fun k => o = some k) w w' := by
  have h' := h.keep (X := fun _ => False) ((Keep.refl _ w).alloc (.cells #[u] e)) (fun _ _ h => h)
  obtain ⟨v', w', g', r1, r2, r3, r4⟩ := rowV_append (P := P) t ty i z ht hi hz hs hby hzs (by decide) h' (a := ⟨w.heap.size, 0, none⟩) (m := 1) (c := 1) (news := [u]) rfl (fun j x hx => by
    match j, hx with
    | 0, hx => cases hx; rw [Addr.add_lit, (Blk.new w #[u] e).cell]; rfl
    | j + 1, hx => simp at hx) (by simpa using hu) (by decide) hmax hb
  obtain ⟨p, cap', rfl, _, _, ⟨_, h0, _, _⟩ | ⟨g2, h2, rfl, _⟩⟩ := r2.form
  · omega
  · cases h2
    exact ⟨g', cap', w', r1, r2, r3.imp id (fun h => by simp at h; omega), ((Keep.refl _ w).alloc _).trans r4⟩
end
end Go.Proofs.YtgedpgdefafofaaDoor
end

section
/- Rows of elements of one cell: a row with room; slices in a slice. No program in sight. -/
namespace Go.Proofs.YtgedpgdefafofaaDoor
open Go Go.RowKit

/-- 'append(nil[:0], make(n)..)': a row of noughts, cut to nothing, has room -/
theorem run_append_room_nil {P : Program} (w : World) (t tn ty e : TypeId) (i : TypeInfo) (z : Value) (ht : P.underlying t = some (.slice e)) (htn : P.underlying tn = some (.int .i64)) (hi : P.info? e = some i) (hz : i.zero = some z) (hs : i.size = 1) (hzs : z.cells.size = 1) (n : Nat) (h0 : 0 < n) (hb : n * i.bytes ≤ 140737488355328) (hn : n ≤ 4611686018427387904) :
    ∃ g cap w', (Builtin.append_ #[t, tn] ty #[.slice none 0 0, .int .i64 (n : Int)]).run P w = .ok (.slice (some ⟨g, 0, none⟩) n cap) w' ∧ RowV w' e 1 (.slice (some ⟨g, 0, none⟩) 0 cap) 0 [] (some g) ∧ n ≤ cap ∧ cap ≤ maxLen ∧ w.heap.size ≤ g ∧ Below w.heap.size w w' := by
  have hr := Lib.run_append_grow_zeros w t tn ty e i z .i64 .i64 ht htn hi hz none 0 0 [] (run_firstCells_none w.drew i.size 0 0 0) n h0 (by omega) (by omega) (by omega) (by omega) (growslice_fits (by omega) (by rw [Nat.zero_add]; exact hb))
  rw [Nat.zero_add] at hr
  refine ⟨_, _, _, hr, ⟨by simp, .inr ⟨w.heap.size, _, _, rfl, rfl, Blk.new w.drew _ e, Nat.zero_le _, ?_, ?_, by simp⟩⟩, grownCap_ge _ _ _ _, ?_, Nat.le_refl _, ((Below.refl w.heap.size w).drew).alloc (Nat.le_refl _) _⟩
  · have := grownCap_ge w n 0 e
    simp [Builtin.zeroCells, hzs]
    omega
  · exact grownCap_le_maxLen w n 0 e (by unfold maxLen; omega)
  · exact grownCap_le_maxLen w n 0 e (by unfold maxLen; omega)
def lenL (L : Nat → Nat) : Nat → Nat
  | 0 => 0
  | n + 1 => lenL L n + L n
def catL (cs : Nat → List Value) : Nat → List Value
  | 0 => []
  | n + 1 => catL cs n ++ cs n
theorem lenL_mono (L : Nat → Nat) {a b : Nat} (h : a ≤ b) : lenL L a ≤ lenL L b := by
  induction h with
  | refl => exact Nat.le_refl _
  | step _ ih => exact Nat.le_trans ih (Nat.le_add_right _ _)
/-- n slices in a slice, each of elements of one cell -/
def CatIn (w : World) (q : Option Addr) (n : Nat) (A : Nat → Option Addr) (L C : Nat → Nat) (cs : Nat → List Value) : Prop :=
  ∀ i, i < n → ∃ b o, q = some ⟨b, o, none⟩ ∧ w.cell? ⟨b, o + i, none⟩ = some (.slice (A i) (L i) (C i)) ∧ (cs i).length = L i ∧ (∀ u ∈ cs i, u.oneCell' = true) ∧ (0 < L i → ∃ pb po, A i = some ⟨pb, po, none⟩ ∧ ∀ j u, (cs i)[j]? = some u → w.cell? ⟨pb, po + j, none⟩ = some u)
theorem CatIn.below {w w' : World} {q : Option Addr} {n : Nat} {A : Nat → Option Addr} {L C : Nat → Nat} {cs : Nat → List Value} (h : CatIn w q n A L C cs) (hb : Below w.heap.size w w') : CatIn w' q n A L C cs := fun i hi => by
  obtain ⟨b, o, h1, h2, h3, h4, h5⟩ := h i hi
  refine ⟨b, o, h1, (hb.cell (p := ⟨b, o + i, none⟩) (cell_lt h2)).trans h2, h3, h4, fun h0 => ?_⟩
  obtain ⟨pb, po, e1, e2⟩ := h5 h0
  exact ⟨pb, po, e1, fun j u hu => (hb.cell (p := ⟨pb, po + j, none⟩) (cell_lt (e2 j u hu))).trans (e2 j u hu)⟩
/-- append onto a row, also of nothing -/
theorem rowV_appendN {P : Program} {w : World} {e : TypeId} {v : Value} {n : Nat} {cs : List Value} {o : Option Nat} (t ty : TypeId) (i : TypeInfo) (z : Value) {by1 : Nat} (ht : P.underlying t = some (.slice e)) (hi : P.info? e = some i) (hz : i.zero = some z) (hs : i.size = 1) (hby : i.bytes = by1) (hzs : z.cells.size = 1)
    (h : RowV w e 1 v n cs o) {p : Option Addr} {m c : Nat} {news : List Value} (hl : news.length = m) (h1 : ∀ u ∈ news, u.oneCell' = true) (hp : 0 < m → ∃ pb po, p = some ⟨pb, po, none⟩ ∧ ∀ j u, news[j]? = some u → w.cell? ⟨pb, po + j, none⟩ = some u) (hmax : n + m ≤ maxLen) (hb : (n + m) * by1 ≤ 140737488355328) :
    ∃ v' w' o', (Builtin.append_ #[t, t] ty #[v, .slice p m c]).run P w = .ok v' w' ∧ RowV w' e 1 v' (n + m) (cs ++ news) o' ∧ (o' = o ∨ ∃ g', o' = some g' ∧ w.heap.size ≤ g') ∧ Keep (fun k => o = some k) w w' := by
  by_cases h0 : 0 < m
  · obtain ⟨pb, po, rfl, hc⟩ := hp h0
    obtain ⟨v', w', g', r1, r2, r3, r4⟩ := rowV_append (P := P) t ty i z ht hi hz hs hby hzs (by decide) h (a := ⟨pb, po, none⟩) (m := m) (c := c) (news := news) (by omega) (fun j u hu => by rw [Addr.add_lit]; exact hc j u hu) h1 h0 hmax hb
    exact ⟨v', w', some g', r1, r2, r3.imp (fun h => h.symm) (fun h => ⟨g', rfl, h⟩), r4⟩
  · obtain rfl : m = 0 := by omega
    obtain rfl : news = [] := List.eq_nil_of_length_eq_zero hl
    obtain ⟨q, c2, rfl, hle, hc2, _⟩ := h.form
    refine ⟨_, w, o, ?_, by rw [List.append_nil]; exact h, .inl rfl, Keep.refl _ _⟩
    cases q <;> cases p <;> simp [Builtin.append_, run_underlying ht, sizeOf, typeInfo, hi, Builtin.lenOf, hle, Builtin.firstCells, loadCells, loadCellsFrom, storeCells]
theorem own_step {w0 w w' : World} {G : Nat} {o o' : Option Nat} (hG : w0.heap.size = G) (hb : Below G w0 w) (ho : ∀ g, o = some g → G ≤ g) (h : o' = o ∨ ∃ g', o' = some g' ∧ w.heap.size ≤ g') (hk : Keep (fun k => o = some k) w w') : (∀ g, o' = some g → G ≤ g) ∧ Below G w0 w' := by
  subst hG
  refine ⟨fun g hg => ?_, hb.trans (hk.below hb.size (fun k hk => ho k hk))⟩
  rcases h with h | ⟨g', h1, h2⟩
  · exact ho g (h ▸ hg)
  · rw [h1] at hg; cases hg; have := hb.size; omega
end Go.Proofs.YtgedpgdefafofaaDoor
end

section
/- Bits in bytes: plain facts, no program in sight. -/
namespace Go.Proofs.YtgedpgdefafofaaDoor
open Go Go.RowKit

/-- byte i of the first k bits of l -/
def accB (l : List Bool) : Nat → Nat → Nat
  | 0, _ => 0
  | k + 1, i => if k / 8 = i ∧ l.getD k false = true then accB l k i ||| 2 ^ (7 - k % 8) else accB l k i
theorem accB_bit (l : List Bool) (k i j : Nat) : (accB l k i).testBit j = (decide (j < 8 ∧ 8 * i + (7 - j) < k) && l.getD (8 * i + (7 - j)) false) := by
  induction k with
  | zero => simp [accB]
  | succ k ih =>
    unfold accB
    by_cases h : k / 8 = i ∧ l.getD k false = true
    · rw [if_pos h, Nat.testBit_or, ih, Nat.testBit_two_pow]
      obtain ⟨h1, h2⟩ := h
      by_cases hj : 7 - k % 8 = j
      · have e : 8 * i + (7 - j) = k := by omega
        have hj8 : j < 8 := by omega
        rw [e, h2, hj]; simp [hj8]
      · rw [Bool.eq_iff_iff]; simp [hj]
        intro hj8 _
        omega
    · rw [if_neg h, ih]
      by_cases e : j < 8 ∧ 8 * i + (7 - j) = k
      · have h2 : l.getD k false = false := by
          rcases Bool.eq_false_or_eq_true (l.getD k false) with h3 | h3
          · exact absurd ⟨by omega, h3⟩ h
          · exact h3
        rw [e.2, h2]; simp
      · have : decide (j < 8 ∧ 8 * i + (7 - j) < k) = decide (j < 8 ∧ 8 * i + (7 - j) < k + 1) := by
          rw [decide_eq_decide]; omega
        rw [this]
theorem accB_lt (l : List Bool) (k i : Nat) : accB l k i < 256 := by
  have : accB l k i < 2 ^ 8 := Nat.lt_pow_two_of_testBit _ fun j hj => by
    rw [accB_bit]; simp; omega
  exact this
/-- beyond the bits that were done a byte is nought -/
theorem accB_zero (l : List Bool) (k i : Nat) (h : k ≤ 8 * i) : accB l k i = 0 := by
  apply Nat.eq_of_testBit_eq; intro j
  rw [accB_bit, Nat.zero_testBit]; simp; intro _ _; omega
theorem accB_append (l m : List Bool) (k i : Nat) (h : k ≤ l.length) : accB (l ++ m) k i = accB l k i := by
  apply Nat.eq_of_testBit_eq; intro j
  rw [accB_bit, accB_bit]
  by_cases hj : j < 8 ∧ 8 * i + (7 - j) < k
  · rw [decide_eq_true hj]; simp [List.getD, List.getElem?_append_left (show 8 * i + (7 - j) < l.length from by omega)]
  · rw [decide_eq_false hj]; rfl
/-- how many bytes so many bits take -/
def nby (n : Nat) : Nat := (n + 7) / 8
/-- the first k bits of l in the bytes of all -/
def part (l : List Bool) (k : Nat) : List Int := (List.range (nby l.length)).map fun i => (accB l k i : Int)
/-- all bits, in bytes -/
def pack (l : List Bool) : List Int := part l l.length
theorem part_length (l : List Bool) (k : Nat) : (part l k).length = nby l.length := by simp [part]
theorem pack_length (l : List Bool) : (pack l).length = nby l.length := part_length _ _
theorem part_get (l : List Bool) (k i : Nat) (h : i < nby l.length) : (part l k)[i]? = some ((accB l k i : Nat) : Int) := by simp [part, h]
theorem u8part_get (l : List Bool) (k i : Nat) (h : i < nby l.length) : (u8s (part l k))[i]? = some (.int .u8 ((accB l k i : Nat) : Int)) := by simp [u8s, part, h]
theorem part_zero (l : List Bool) : u8s (part l 0) = List.replicate (nby l.length) (Value.int .u8 0) := by
  apply List.ext_getElem?; intro i
  by_cases h : i < nby l.length
  · rw [u8part_get l 0 i h, List.getElem?_replicate, if_pos h]; rfl
  · rw [List.getElem?_eq_none (by simp [u8s, part_length]; omega), List.getElem?_replicate, if_neg h]
/-- the next bit is a nought -/
theorem part_skip (l : List Bool) (k : Nat) (h : l.getD k false = false) : part l (k + 1) = part l k := by
  unfold part; congr 1; funext i
  rw [accB, if_neg (fun hh => by rw [h] at hh; cases hh.2)]
/-- the next bit is a one -/
theorem part_one (l : List Bool) (k : Nat) (h : l.getD k false = true) : u8s (part l (k + 1)) = (u8s (part l k)).set (k / 8) (.int .u8 ((accB l k (k / 8) ||| 2 ^ (7 - k % 8) : Nat) : Int)) := by
  apply List.ext_getElem?; intro i
  by_cases hi : i < nby l.length
  · rw [u8part_get l _ i hi, List.getElem?_set]
    by_cases hk : k / 8 = i
    · subst hk
      rw [if_pos rfl, if_pos (by simpa [u8s, part_length] using hi), accB, if_pos ⟨rfl, h⟩]
    · rw [if_neg hk, u8part_get l k i hi, accB, if_neg (by simp [hk])]
  · rw [List.getElem?_eq_none (by simp [u8s, part_length]; omega), List.getElem?_eq_none (by simp [u8s, part_length]; omega)]
theorem nby_succ (n : Nat) : nby (n + 1) = if n % 8 = 0 then nby n + 1 else nby n := by unfold nby; split <;> omega
theorem div_nby (n : Nat) : n / 8 < nby (n + 1) := by unfold nby; omega
/-- a bit more: first its byte, if it is a new one -/
theorem pack_room (l : List Bool) (b : Bool) : u8s (part (l ++ [b]) l.length) = if l.length % 8 = 0 then u8s (pack l) ++ [.int .u8 0] else u8s (pack l) := by
  have hl : (l ++ [b]).length = l.length + 1 := by simp
  apply List.ext_getElem?; intro i
  by_cases hi : i < nby (l.length + 1)
  · rw [u8part_get _ _ i (by rw [hl]; exact hi), accB_append l [b] _ i (Nat.le_refl _)]
    rw [nby_succ] at hi
    by_cases h8 : l.length % 8 = 0
    · rw [if_pos h8] at hi ⊢
      by_cases he : i < nby l.length
      · rw [List.getElem?_append_left (by simpa [u8s, pack_length] using he)]
        exact (u8part_get l _ i he).symm
      · have e : i = nby l.length := by omega
        subst e
        rw [List.getElem?_append_right (by simp [u8s, pack_length]), accB_zero _ _ _ (by unfold nby; omega)]
        simp [u8s, pack_length]
    · rw [if_neg h8] at hi ⊢
      exact (u8part_get l _ i hi).symm
  · have h1 : (u8s (part (l ++ [b]) l.length))[i]? = none := List.getElem?_eq_none (by simp [u8s, part_length]; omega)
    rw [h1]; symm
    rw [nby_succ] at hi
    split
    · rename_i h; rw [if_pos h] at hi; exact List.getElem?_eq_none (by simp [u8s, pack_length]; omega)
    · rename_i h; rw [if_neg h] at hi; exact List.getElem?_eq_none (by simp [u8s, pack_length]; omega)
theorem getD_last (l : List Bool) (b : Bool) : (l ++ [b]).getD l.length false = b := by simp [List.getD]
/-- .. then the bit itself -/
theorem pack_bit (l : List Bool) (b : Bool) : u8s (pack (l ++ [b])) = (u8s (part (l ++ [b]) l.length)).set (l.length / 8) (.int .u8 ((accB l l.length (l.length / 8) ||| (b.toNat * 2 ^ (7 - l.length % 8)) : Nat) : Int)) := by
  have hl : (l ++ [b]).length = l.length + 1 := by simp
  unfold pack
  rw [hl]
  cases b with
  | true =>
    rw [part_one _ _ (getD_last l true), accB_append l _ _ _ (Nat.le_refl _), Bool.toNat_true, Nat.one_mul]
  | false =>
    rw [part_skip _ _ (getD_last l false)]
    have h : l.length / 8 < nby (l ++ [false]).length := by rw [hl]; exact div_nby _
    rw [Bool.toNat_false, Nat.zero_mul, Nat.or_zero, ← accB_append l [false] _ _ (Nat.le_refl _)]
    symm
    apply List.ext_getElem?; intro i
    rw [List.getElem?_set]
    split
    · rename_i e; subst e
      rw [if_pos (by simpa [u8s, part_length] using h), u8part_get _ _ _ h]
    · rfl
/-- the lowest bits of n, the highest of them first -/
def bitsOf (n : Nat) : Nat → List Bool
  | 0 => []
  | k + 1 => n.testBit k :: bitsOf n k
theorem bitsOf_length (n k : Nat) : (bitsOf n k).length = k := by induction k with | zero => rfl | succ k ih => simp [bitsOf, ih]
def bitsE (c : Int) : Int := if c < 0 ∨ 64 < c then 1 else 0
def bitsL (l : List Bool) (n : Nat) (c : Int) : List Bool := if c < 0 ∨ 64 < c then l else l ++ bitsOf n c.toNat
/-- n by quotient and rest -/
def riceE (n : Nat) (c : Int) : Int := if c < 0 ∨ 32 < c ∨ 65535 < n / 2 ^ c.toNat then 1 else 0
def riceL (l : List Bool) (n : Nat) (c : Int) : List Bool := if c < 0 ∨ 32 < c ∨ 65535 < n / 2 ^ c.toNat then l else l ++ List.replicate (n / 2 ^ c.toNat) true ++ [false] ++ bitsOf n c.toNat
end Go.Proofs.YtgedpgdefafofaaDoor
end

section
/-
  DERIVED: THE SHELF's CONTRACTS AT THIS DUMP, IN PLAIN WORDS (tools/lay-plain.mjs out of 'TrydShelf.lean', which tools/lay-shelf.mjs wrote): THE SAME DECLARATIONS UNDER THE SAME NAMES: 'import', 'namespace', 'open', 'def', 'theorem' AND NOTHING ELSE: no command of the shelf's: FOR A HAND-IN. Each laying: the table of numbers ('.._ren') and one theorem, a field a fact of the dump's own or the kernel's comparison; each contract: ONE APPLICATION.
-/
namespace Go.Proofs
open Go.Shelf
def Tryd.lays264_ren : Go.Shelf.Ren := ⟨fun | 264 => 90 | n => n, fun | 53 => 64 | 46 => 111 | n => n, fun | n => n⟩
theorem Tryd.lays264 : Go.Proofs.Lays.n264 Tryd.prog Tryd.lays264_ren := {
  mixed := by kernel_rfl
  f264 := Tryd.func90.trans (congrArg some (by kernel_rfl))
  t46 := Tryd.underlying111
  a46 := Tryd.isAgg111
  z46 := Tryd.sizeOf111
  v46 := Tryd.zeroValue111
  t53 := Tryd.underlying64
  a53 := Tryd.isAgg64
  z53 := Tryd.sizeOf64
  v53 := Tryd.zeroValue64 }
open Go.RowKit Go.Lib in
theorem Tryd.bits_Mul64 (x y : Nat) (hx : x < 18446744073709551616) (hy : y < 18446744073709551616) (w : World) :
    Calls Tryd.prog 90 #[.int .u64 x, .int .u64 y] w fun e w' => e = .returned (.tuple #[.int .u64 ((x * y / 18446744073709551616 : Nat) : Int), .int .u64 ((x * y % 18446744073709551616 : Nat) : Int)]) ∧ w' = w := Any.bits_Mul64 Tryd.lays264 x y hx hy w
def Tryd.laysSlK4_ren : Go.Shelf.Ren := ⟨fun | 4 => 37 | n => n, fun | 22 => 30 | 4 => 4 | 5 => 5 | n => n, fun | n => n⟩
theorem Tryd.laysSlK4 : Go.Proofs.SlLaysK.n4 Tryd.prog Tryd.laysSlK4_ren := {
  mixed := by kernel_rfl
  f4 := Tryd.func37.trans (congrArg some (by kernel_rfl))
  t4 := Tryd.underlying4
  a4 := Tryd.isAgg4
  z4 := Tryd.sizeOf4
  v4 := Tryd.zeroValue4
  t22 := Tryd.underlying30
  a22 := Tryd.isAgg30
  z22 := Tryd.sizeOf30
  v22 := Tryd.zeroValue30
  t5 := Tryd.underlying5
  i5 := by kernel_rfl }
open Go.RowKit Go.Lib in
/-- bytes.Clone: "Clone returns a copy of b[:len(b)]. The result may have additional unused capacity.": OF A SLICE THAT IS NOT nil IT RETURNS A SLICE THAT IS NOT nil, OF THE SAME BYTES, IN MEMORY OF THE CALL's OWN: in the how-to's words (6f): 'w'.ownsRow B e 1 v' n cells' · 'Below B w w'', B the heap's size at the call. b AT WHATEVER ADDRESS, its cells as 'open_ints' hands them ('a.add i'; the numbers 'xs'). No byte: no cell is asked for. (LAID: no walk: one application.) -/
theorem Tryd.bytes_Clone_at (a : Addr) (n c : Nat) (xs : List Int) (w : World) (hx : xs.length = n) (hbig : n ≤ 140737488355328) (hc : ∀ i, i < n → w.cell? (a.add i) = some (.int .u8 (xs.getD i 0))) :
    Calls Tryd.prog 37 #[.slice (some a) n c] w fun e w' => ∃ v', e = .returned v' ∧ w'.ownsRow w.heap.size 5 1 v' n (xs.map (Value.int .u8)) ∧ v' ≠ .slice none 0 0 ∧ Below w.heap.size w w' := Any.bytes_Clone_at Tryd.laysSlK4 a n c xs w hx hbig hc
open Go.RowKit Go.Lib in
/-- "Clone(nil) returns nil.": the world is as it was. (LAID: no walk: one application.) -/
theorem Tryd.bytes_Clone_nil (n c : Nat) (w : World) :
    Calls Tryd.prog 37 #[.slice none n c] w fun e w' => e = .returned (.slice none 0 0) ∧ w' = w := Any.bytes_Clone_nil Tryd.laysSlK4 n c w
end Go.Proofs
end

section
/- Small facts on bits and bytes, for whoever reads or writes them. -/
namespace Go.Proofs.YtgedpgdefafofaaDoor
open Go Go.RowKit
set_option maxRecDepth 100000
set_option linter.unusedSimpArgs false

/-- the blocks of a writer -/
def foot (p : Nat) (o : Option Nat) : Nat → Prop := fun k => k = p ∨ o = some k
theorem u8info : (Tryd.prog.info? 5).map (fun i => (i.zero, i.size, i.bytes)) = some (some (.int .u8 0), 1, 1) := by kernel_rfl
theorem i64_rem8 (n : Nat) (h : n ≤ 1099511627776) : IntKind.i64.wrap ((n : Int).tmod 8) = ((n % 8 : Nat) : Int) := by
  rw [Int.tmod_eq_emod_of_nonneg (by omega)]
  exact (IntWalk.i64_in _ (by omega)).trans (by omega)
theorem i64_quo8 (n : Nat) (h : n ≤ 1099511627776) : IntKind.i64.wrap ((n : Int).tdiv 8) = ((n / 8 : Nat) : Int) := by
  rw [Int.tdiv_eq_ediv_of_nonneg (by omega)]
  exact (IntWalk.i64_in _ (by omega)).trans (by omega)
theorem bit_put (n k : Nat) (h : n < 18446744073709551616) : bits .and .u64 ((n : Int) / 2 ^ k) 1 = ((n.testBit k).toNat : Int) := by
  rw [← bt_eq]
  have e : ((n : Int) / 2 ^ k) = ((n / 2 ^ k : Nat) : Int) := by rw [Int.natCast_ediv, Int.natCast_pow]; rfl
  rw [e, and1 _ (Nat.lt_of_le_of_lt (Nat.div_le_self _ _) h)]; rfl
theorem tb_eq (b : Bool) : (((b.toNat : Nat) : Int) == 1) = b := by cases b <;> rfl
def uOf : Value → Nat | .int _ z => z.toNat | _ => 0
end Go.Proofs.YtgedpgdefafofaaDoor
end

section
/- Bits out of bytes: plain facts, no program in sight. -/
namespace Go.Proofs.YtgedpgdefafofaaDoor
open Go Go.RowKit

/-- bit j of a byte, the highest first -/
def zb (x : Int) (j : Nat) : Bool := x.toNat.testBit (7 - j)
def unpack : List Int → List Bool
  | [] => []
  | x :: r => zb x 0 :: zb x 1 :: zb x 2 :: zb x 3 :: zb x 4 :: zb x 5 :: zb x 6 :: zb x 7 :: unpack r
theorem unpack_length (Z : List Int) : (unpack Z).length = 8 * Z.length := by induction Z with | nil => rfl | cons x r ih => simp [unpack, ih]; omega
theorem unpack_get : ∀ (Z : List Int) (k : Nat), k < 8 * Z.length → (unpack Z)[k]? = some (zb (Z.getD (k / 8) 0) (k % 8))
  | [], k, h => by simp at h
  | x :: r, k, h => by
    by_cases hk : k < 8
    · rcases (by omega : k = 0 ∨ k = 1 ∨ k = 2 ∨ k = 3 ∨ k = 4 ∨ k = 5 ∨ k = 6 ∨ k = 7) with h | h | h | h | h | h | h | h <;> subst h <;> rfl
    · obtain ⟨j, rfl⟩ : ∃ j, k = j + 8 := ⟨k - 8, by omega⟩
      have ih := unpack_get r j (by simp at h; omega)
      rw [show (j + 8) / 8 = j / 8 + 1 from by omega, show (j + 8) % 8 = j % 8 from by omega, List.getD_cons_succ, ← ih]
      simp [unpack]
theorem unpack_drop (x : Int) (r : List Int) (t : Nat) (h : t < 8) : (unpack (x :: r)).drop t = zb x t :: (unpack (x :: r)).drop (t + 1) := by
  rcases (by omega : t = 0 ∨ t = 1 ∨ t = 2 ∨ t = 3 ∨ t = 4 ∨ t = 5 ∨ t = 6 ∨ t = 7) with h | h | h | h | h | h | h | h <;> subst h <;> rfl
theorem unpack_eight (x : Int) (r : List Int) : (unpack (x :: r)).drop 8 = unpack r := rfl
/-- what was packed, and noughts up to a whole byte -/
theorem unpack_pack (l : List Bool) : unpack (pack l) = l ++ List.replicate (8 * nby l.length - l.length) false := by
  have hn : l.length ≤ 8 * nby l.length := by unfold nby; omega
  apply List.ext_getElem?; intro k
  by_cases hk : k < 8 * nby l.length
  · rw [unpack_get _ _ (by rw [pack_length]; exact hk)]
    have hb : k / 8 < nby l.length := by omega
    have e1 : (pack l).getD (k / 8) 0 = ((accB l l.length (k / 8) : Nat) : Int) := by
      rw [List.getD_eq_getElem?_getD]
      unfold pack
      rw [part_get l _ _ hb]; rfl
    rw [e1]
    unfold zb
    rw [Int.toNat_natCast, accB_bit, show 8 * (k / 8) + (7 - (7 - k % 8)) = k from by omega]
    by_cases hl : k < l.length
    · rw [List.getElem?_append_left hl]
      have : decide (7 - k % 8 < 8 ∧ k < l.length) = true := decide_eq_true ⟨by omega, hl⟩
      rw [this]
      simp [List.getD, hl]
    · rw [List.getElem?_append_right (by omega), List.getElem?_replicate, if_pos (by omega)]
      simp [hl]
  · rw [List.getElem?_eq_none (by rw [unpack_length, pack_length]; omega), List.getElem?_eq_none (by simp; omega)]
theorem pad_lt (l : List Bool) : 8 * nby l.length - l.length < 8 := by unfold nby; omega
theorem pack_range (l : List Bool) : ∀ x ∈ pack l, 0 ≤ x ∧ x < 256 := by
  intro x hx
  simp only [pack, part, List.mem_map, List.mem_range] at hx
  obtain ⟨i, _, rfl⟩ := hx
  have := accB_lt l l.length i
  omega
/-- bits as a number -/
def valOf (s : List Bool) : Nat := s.foldl (fun n b => 2 * n + b.toNat) 0
theorem foldl_bitsOf (n m : Nat) : ∀ c, (bitsOf n c).foldl (fun n b => 2 * n + b.toNat) m = m * 2 ^ c + n % 2 ^ c
  | 0 => by simp [bitsOf, Nat.mod_one]
  | c + 1 => by
    rw [bitsOf, List.foldl_cons, foldl_bitsOf n _ c]
    have e : n % 2 ^ (c + 1) = n % 2 ^ c + 2 ^ c * (n.testBit c).toNat := by rw [Nat.mod_pow_succ, Nat.toNat_testBit]
    rw [e, Nat.pow_succ, Nat.add_mul]
    have : (n.testBit c).toNat * 2 ^ c = 2 ^ c * (n.testBit c).toNat := Nat.mul_comm _ _
    have : 2 * m * 2 ^ c = m * (2 ^ c * 2) := by rw [Nat.mul_comm 2 m, Nat.mul_assoc, Nat.mul_comm 2]
    omega
theorem valOf_bitsOf (n c : Nat) : valOf (bitsOf n c) = n % 2 ^ c := by unfold valOf; rw [foldl_bitsOf]; omega
theorem valOf_snoc (s : List Bool) (b : Bool) : valOf (s ++ [b]) = 2 * valOf s + b.toNat := by simp [valOf]
theorem valOf_lt (s : List Bool) : valOf s < 2 ^ s.length := by
  have key : ∀ (s : List Bool) (m : Nat), s.foldl (fun n b => 2 * n + b.toNat) m < (m + 1) * 2 ^ s.length := by
    intro s
    induction s with
    | nil => intro m; simp
    | cons b s ih =>
      intro m
      refine Nat.lt_of_lt_of_le (ih _) ?_
      rw [List.length_cons, Nat.pow_succ, Nat.mul_comm _ 2, ← Nat.mul_assoc]
      refine Nat.mul_le_mul_right _ ?_
      have : b.toNat ≤ 1 := Bool.toNat_le b
      show 2 * m + b.toNat + 1 ≤ _
      omega
  have := key s 0
  simpa [valOf] using this
/-- bits one list behind the other -/
def catb (B : Nat → List Bool) : Nat → Nat → List Bool
  | _, 0 => []
  | j, m + 1 => B j ++ catb B (j + 1) m
end Go.Proofs.YtgedpgdefafofaaDoor
end

section
/- The walks of layer 11: the reader. -/
namespace Go.Proofs.YtgedpgdefafofaaDoor
open Go Go.RowKit
set_option maxRecDepth 100000
set_option linter.unusedSimpArgs false

/-- a reader that a call made, in memory, and the bits that are left -/
def RdAt (w : World) (r : Nat) (s : List Bool) : Prop :=
  ∃ (q : Option Addr) (c t : Nat) (Z : List Int), Blk w r #[.bool true, .slice q Z.length c, .int .i64 (t : Int)] 109 ∧ Lib.BytesIn w q Z.length Z ∧ (∀ a, q = some a → a.block < r) ∧ (∀ x ∈ Z, 0 ≤ x ∧ x < 256) ∧ Z.length ≤ c ∧ (c ≤ maxLen ∧ Z.length ≤ 140737488355328) ∧ t < 8 ∧ (Z = [] → t = 0) ∧ s = (unpack Z).drop t
theorem RdAt.keep {X : Nat → Prop} {w w' : World} {r : Nat} {s : List Bool} (h : RdAt w r s) (hk : Keep X w w') (hn : ∀ k, k < w.heap.size → ¬ X k) : RdAt w' r s := by
  obtain ⟨q, c, t, Z, h1, h2, h3⟩ := h
  exact ⟨q, c, t, Z, hk.blk h1 (hn r h1.lt), bytes_keep h2 hk (fun h0 a ha => hn _ (bytes_lt h2 h0 a ha)), h3⟩
theorem RdAt.up {X : Nat → Prop} {w w' : World} {r : Nat} {s : List Bool} (h : RdAt w r s) (hk : Keep X w w') (hn : ∀ k, k ≤ r → ¬ X k) : RdAt w' r s := by
  obtain ⟨q, c, t, Z, h1, h2, h3, h4⟩ := h
  exact ⟨q, c, t, Z, hk.blk h1 (hn r (Nat.le_refl _)), bytes_keep h2 hk (fun h0 a ha => hn _ (Nat.le_of_lt (h3 a ha))), h3, h4⟩
theorem RdAt.below {w w' : World} {r : Nat} {s : List Bool} (h : RdAt w r s) (hk : Below w.heap.size w w') : RdAt w' r s :=
  h.keep (X := fun _ => False) (Keep.of_below hk) (fun _ _ h => h)
theorem RdAt.lt {w : World} {r : Nat} {s : List Bool} (h : RdAt w r s) : r < w.heap.size := by
  obtain ⟨q, c, t, Z, h1, _⟩ := h
  exact h1.lt
theorem RdAt.len {w : World} {r : Nat} {s : List Bool} (h : RdAt w r s) : s.length ≤ 1125899906842624 := by
  obtain ⟨q, c, t, Z, _, _, _, _, h1, h2, _, _, rfl⟩ := h
  rw [List.length_drop, unpack_length]; omega
theorem vnone (p : Nat) (w : World) (h : w.cell? ⟨p, 0, none⟩ = some (.bool true)) : Calls Tryd.prog 64 #[.pointer (some ⟨p, 0, none⟩)] w fun e w' => e = .returned (.bool false) ∧ w = w' := by
  go_enter Tryd.func64, Tryd.ntmps64
  go_wp2
  go_ret
  exact ⟨rfl, rfl⟩
theorem zb_val (x : Int) (t : Nat) (h0 : 0 ≤ x) (h1 : x < 256) : bits .and .u8 (x / 2 ^ (7 - t)) 1 = ((zb x t).toNat : Int) := by
  have e : x / 2 ^ (7 - t) = ((x.toNat / 2 ^ (7 - t) : Nat) : Int) := by
    rw [Int.natCast_ediv, Int.natCast_pow, Int.toNat_of_nonneg h0]; rfl
  have hl : x.toNat / 2 ^ (7 - t) < 256 := Nat.lt_of_le_of_lt (Nat.div_le_self _ _) (by omega)
  rw [e]
  have h2 := u8_and_nat (x.toNat / 2 ^ (7 - t)) 1 hl (by decide)
  rw [Nat.and_one_is_mod] at h2
  rw [show (1 : Int) = ((1 : Nat) : Int) from rfl, h2]
  unfold zb
  rw [Nat.toNat_testBit]
theorem vleft (r : Nat) (s : List Bool) (w : World) (h : RdAt w r s) :
    Calls Tryd.prog 42 #[.pointer (some ⟨r, 0, none⟩)] w fun e w' => e = .returned (.int .i64 (s.length : Int)) ∧ w' = w.drew := by
  obtain ⟨q, c, t, Z, h1, h2, h3, h4, h5, h6, h7, h8, rfl⟩ := h
  have PN := Lib.hid (vnone r w (h1.cell 0))
  have cc := h1.cell
  have hl : (((unpack Z).drop t).length : Int) = 8 * Z.length - t := by
    rw [List.length_drop, unpack_length]
    rcases Z with _ | ⟨x, R⟩
    · have := h8 rfl; subst this; rfl
    · simp; omega
  have HL := Lib.hid hl
  clear h1 h2 h3 h4 h8 hl
  go_enter Tryd.func42, Tryd.ntmps42
  go_wp2_with fail
  refine PN.out.mono ?_
  rintro e w1 ⟨rfl, rfl⟩
  go_wp2
  go_region
  go_wp2
  go_ret
  exact ⟨by rw [HL.out]; rfl, rfl⟩
set_option maxHeartbeats 1600000 in
theorem vnext (r : Nat) (b : Bool) (s : List Bool) (w : World) (h : RdAt w r (b :: s)) :
    Calls Tryd.prog 66 #[.pointer (some ⟨r, 0, none⟩)] w fun e w' => e = .returned (.int .u64 (b.toNat : Int)) ∧ RdAt w' r s ∧ Keep (fun k => k = r) w w' := by
  obtain ⟨q, c, t, Z, h1, h2, h3, h4, h5, h6, h7, h8, hs⟩ := h
  rcases Z with _ | ⟨x, R⟩
  · have := h8 rfl; subst this; cases hs
  · obtain ⟨qb, qo, rfl, hc⟩ := h2.at (by simp)
    have hx := h4 x (List.mem_cons_self ..)
    rw [unpack_drop x R t h7] at hs
    injection hs with hb hs
    subst hb
    have c0 := hc 0 (by simp)
    rw [List.getD_cons_zero, Nat.add_zero] at c0
    have n0 : qb < r := h3 _ rfl
    have n1 : qb ≠ r := Nat.ne_of_lt n0
    have n2 : r ≠ qb := fun e => n1 e.symm
    have cc := h1.cell
    have ff := h1.free
    have hz := zb_val x t hx.1 hx.2
    have hzr : (0 : Int) ≤ ((zb x t).toNat : Int) ∧ ((zb x t).toNat : Int) ≤ 1 := by have := Bool.toNat_le (zb x t); omega
    generalize zb x t = b at *
    have H1 := Lib.hid h1
    have H2 := Lib.hid h2
    have H4 := Lib.hid h4
    have HC := Lib.hid hc
    have HS := Lib.hid hs
    have H56 := Lib.hid (And.intro h5 h6)
    have hcm := h6.1
    have hlen : ((x :: R).length : Int) = (R.length : Int) + 1 := by simp
    clear h1 h2 h3 h4 h8 hc hs h5 h6 hx
    by_cases ht : t = 7
    · subst ht
      have hz7 : bits .and .u8 x 1 = (b.toNat : Int) := by rw [← hz]; simp
      by_cases hc1 : c = 1
      · go_enter Tryd.func66, Tryd.ntmps66
        go_wp2
        go_region
        go_wp2
        go_ret
        have K := (((Keep.refl (fun k => k = r) w).set (p := ⟨r, 2, none⟩) (.inl rfl) (.int .i64 8)).set (p := ⟨r, 1, none⟩) (.inl rfl) (.slice (some ⟨qb, qo, none⟩) R.length 0)).set (p := ⟨r, 2, none⟩) (.inl rfl) (.int .i64 0)
        have hR : R = [] := by have := H56.out.1; simp [hc1] at this; exact this
        subst hR
        exact ⟨rfl, ⟨some ⟨qb, qo, none⟩, 0, 0, [], (((H1.out.set 2 _).set 1 _).set 2 _).drew, Lib.BytesIn.nil _ _ _, fun a ha => by cases ha; exact n0, fun x hx => by (cases hx), Nat.le_refl _, by decide, by omega, fun _ => rfl, HS.out⟩, K.drew⟩
      · go_enter Tryd.func66, Tryd.ntmps66
        go_wp2
        go_region
        go_wp2
        go_ret
        have K := (((Keep.refl (fun k => k = r) w).set (p := ⟨r, 2, none⟩) (.inl rfl) (.int .i64 8)).set (p := ⟨r, 1, none⟩) (.inl rfl) (.slice (some ⟨qb, qo + 1, none⟩) R.length (c - 1))).set (p := ⟨r, 2, none⟩) (.inl rfl) (.int .i64 0)
        have hb2 : Lib.BytesIn w (some ⟨qb, qo + 1, none⟩) R.length R := fun h0 => ⟨qb, qo + 1, rfl, fun i hi => by
          have := HC.out (i + 1) (by simp; omega)
          rw [List.getD_cons_succ] at this
          rw [Nat.add_assoc, Nat.add_comm 1 i]; exact this⟩
        have h5 := H56.out.1
        have h6 := H56.out.2
        simp at h5 h6
        exact ⟨rfl, ⟨some ⟨qb, qo + 1, none⟩, c - 1, 0, R, (((H1.out.set 2 _).set 1 _).set 2 _).drew, bytes_keep hb2 K.drew (fun _ a ha e => by cases ha; exact n1 e), fun a ha => by cases ha; exact n0, fun y hy => H4.out y (List.mem_cons_of_mem _ hy), by omega, by omega, by omega, fun _ => rfl, HS.out⟩, K.drew⟩
    · have ht6 : t ≤ 6 := by omega
      have d8 : ((t : Int) + 1 == 8) = false := beq_false_of_ne (by omega)
      go_enter Tryd.func66, Tryd.ntmps66
      go_wp2
      go_region
      go_wp2
      go_ret
      have K := ((Keep.refl (fun k => k = r) w).set (p := ⟨r, 2, none⟩) (.inl rfl) (.int .i64 ((t : Int) + 1))).drew
      exact ⟨rfl, ⟨some ⟨qb, qo, none⟩, c, t + 1, x :: R, (H1.out.set 2 _).drew, bytes_keep H2.out K (fun _ a ha e => by cases ha; exact n1 e), fun a ha => by cases ha; exact n0, H4.out, H56.out.1, H56.out.2, by omega, fun h => absurd h (by simp), HS.out⟩, K⟩
end Go.Proofs.YtgedpgdefafofaaDoor
end

section
/- The walks of layer 11: the reader's Bit, Bits, Open. -/
namespace Go.Proofs.YtgedpgdefafofaaDoor
open Go Go.RowKit
set_option maxRecDepth 100000
set_option linter.unusedSimpArgs false

theorem Keep.own {r : Nat} {a b c : World} (h : Keep (fun k => k = r) a b) (k : Keep (fun k => k = r) b c) : Keep (fun k => k = r) a c := h.trans k
theorem vbit (r : Nat) (b : Bool) (s : List Bool) (w : World) (h : RdAt w r (b :: s)) :
    Calls Tryd.prog 65 #[.pointer (some ⟨r, 0, none⟩)] w fun e w' => e = .returned (.tuple #[.bool b, .int .i64 0]) ∧ RdAt w' r s ∧ Keep (fun k => k = r) w w' := by
  have PN := Lib.hid (vnone r w (by obtain ⟨q, c, t, Z, h1, _⟩ := h; exact h1.cell 0))
  have PL := Lib.hid (vleft r (b :: s) w h)
  have PX := Lib.hid (vnext r b s w.drew (h.below (Below.refl _ _).drew))
  have hl := Lib.hid (show (((b :: s).length : Int) == 0) = false from beq_false_of_ne (by simp; omega))
  have hb := tb_eq b
  clear h
  go_enter Tryd.func65, Tryd.ntmps65
  go_wp2_with fail
  refine PN.out.mono ?_
  rintro e w1 ⟨rfl, rfl⟩
  go_wp2_with fail
  refine PL.out.mono ?_
  rintro e w1 ⟨rfl, rfl⟩
  have hl := hl.out
  generalize ((b :: s).length : Int) = L at *
  go_wp2_with fail
  refine PX.out.mono ?_
  rintro e w1 ⟨rfl, hs, hk⟩
  have HS := Lib.hid hs
  have HK := Lib.hid hk
  clear hs hk
  go_wp2
  go_ret2
  exact ⟨rfl, HS.out, ((Keep.refl (fun k => k = r) w).drew).trans HK.out⟩
theorem or_bit1 (V : Nat) (b : Bool) (h : V < 9223372036854775808) : bits .or .u64 ((V : Int) * 2) (b.toNat : Int) = ((2 * V + b.toNat : Nat) : Int) := by
  have hb : b.toNat ≤ 1 := Bool.toNat_le b
  rw [show (V : Int) * 2 = ((2 * V : Nat) : Int) from by omega, or_u64 _ _ (by omega) (by omega)]
  congr 1
  have := Nat.two_pow_add_eq_or_of_lt (i := 1) (b := b.toNat) (by omega) V
  rw [Nat.pow_one] at this
  exact this.symm
theorem drop_cons (s : List Bool) (k : Nat) (h : k < s.length) : s.drop k = s.getD k false :: s.drop (k + 1) := by
  rw [List.drop_eq_getElem_cons h]; simp [List.getD, h]
theorem take_snoc (s : List Bool) (k : Nat) (h : k < s.length) : s.take (k + 1) = s.take k ++ [s.getD k false] := by
  rw [List.take_add_one, List.getElem?_eq_getElem h]; simp [List.getD, h]
set_option maxHeartbeats 1600000 in
theorem vbits (r : Nat) (s : List Bool) (C : Nat) (w : World) (h : RdAt w r s) (hC : C ≤ 64) (hs : C ≤ s.length) :
    Calls Tryd.prog 43 #[.pointer (some ⟨r, 0, none⟩), .int .i64 (C : Int)] w fun e w' => e = .returned (.tuple #[.int .u64 (valOf (s.take C) : Int), .int .i64 0]) ∧ RdAt w' r (s.drop C) ∧ Keep (fun k => k = r) w w' := by
  have hlen := h.len
  have PN := Lib.hid (vnone r w (by obtain ⟨q, c, t, Z, h1, _⟩ := h; exact h1.cell 0))
  have PL := Lib.hid (vleft r s w h)
  have H := Lib.hid (h.below (Below.refl _ _).drew)
  have hl : decide ((s.length : Int) < (C : Int)) = false := decide_eq_false (by omega)
  have hl2 : decide (s.length < C) = false := decide_eq_false (by omega)
  have hl3 : ¬ s.length < C := by omega
  have d1 : decide ((C : Int) < 0) = false := decide_eq_false (by omega)
  have d2 : decide (64 < (C : Int)) = false := decide_eq_false (by omega)
  have HSL := Lib.hid hs
  clear h
  go_enter Tryd.func43, Tryd.ntmps43
  go_wp2_with fail
  refine PN.out.mono ?_
  rintro e w1 ⟨rfl, rfl⟩
  go_wp2_with fail
  refine PL.out.mono ?_
  rintro e w1 ⟨rfl, rfl⟩
  go_wp2
  go_loopg [6, 23] C (fun g n i wx => ∃ (k V : Nat), k ≤ C ∧ n = .int .u64 (V : Int) ∧ i = .int .i64 (k : Int) ∧ g = C - k ∧ Hid (V = valOf (s.take k) ∧ RdAt wx r (s.drop k) ∧ Keep (fun k => k = r) w wx))
  case atStart => exact ⟨0, 0, by omega, rfl, rfl, rfl, by simp [valOf], H.out, (Keep.refl _ _).drew⟩
  case round =>
    obtain ⟨k, V, hk, rfl, rfl, hg, HM⟩ := hrel
    by_cases hlt : k < C
    · have hks : k < s.length := Nat.lt_of_lt_of_le hlt HSL.out
      have hV : V < 9223372036854775808 := by
        have h1 := valOf_lt (s.take k)
        rw [← HM.out.1, List.length_take] at h1
        have h2 : 2 ^ (min k s.length) ≤ 2 ^ 63 := Nat.pow_le_pow_right (by decide) (by omega)
        omega
      have hR := HM.out.2.1
      rw [drop_cons s k hks] at hR
      have hT := Lib.hid (take_snoc s k hks)
      generalize s.getD k false = bk at *
      have hob := or_bit1 V bk hV
      have PX := Lib.hid (vnext r _ _ wr hR)
      have HG := Lib.hid (And.intro hg hks)
      clear hR hg hks
      go_wp2_with fail
      refine PX.out.mono ?_
      rintro e w1 ⟨rfl, h1, h2⟩
      have H1 := Lib.hid h1
      have H2 := Lib.hid h2
      clear h1 h2
      go_wp2
      go_roundg (C - (k + 1))
      case measure => rw [HG.out.1]; omega
      case rel => exact ⟨k + 1, 2 * V + bk.toNat, by omega, by first | rfl | (rw [hob]), rfl, rfl, by rw [hT.out, valOf_snoc, HM.out.1], H1.out, HM.out.2.2.trans H2.out⟩
    · obtain rfl : k = C := by omega
      go_wp2
      go_ret2
      exact ⟨by rw [HM.out.1]; rfl, HM.out.2.1, HM.out.2.2⟩
theorem vopen (q : Option Addr) (c : Nat) (o : Option Nat) (xs : List Int) (w : World) (h : Row w 5 (.slice q xs.length c) xs o) (hr : ∀ x ∈ xs, 0 ≤ x ∧ x < 256) (hl : xs.length ≤ 140737488355328) :
    Calls Tryd.prog 40 #[.slice q xs.length c] w fun e w' => ∃ r, e = .returned (.pointer (some ⟨r, 0, none⟩)) ∧ RdAt w' r (unpack xs) ∧ w.heap.size ≤ r ∧ Below w.heap.size w w' := by
  obtain ⟨q', c', e, hb, hle, hm, hq⟩ := h.form
  injection e with e1 e2 e3
  subst e1 e3
  clear e2
  rcases hq with ⟨rfl, rfl, rfl, _⟩ | ⟨g, rfl, rfl, hg⟩
  · have Q := Lib.hid (Tryd.bytes_Clone_nil 0 0 w)
    go_enter Tryd.func40, Tryd.ntmps40
    go_wp2_with fail
    refine Q.out.mono ?_
    rintro e w1 ⟨rfl, rfl⟩
    go_wp2
    go_ret
    exact ⟨_, rfl, ⟨none, 0, 0, ([] : List Int), Blk.new _ _ _, Lib.BytesIn.nil _ _ _, fun _ h => (by cases h), fun _ h => (by cases h), Nat.le_refl _, ⟨by decide, by decide⟩, by decide, fun _ => rfl, rfl⟩, Nat.le_refl _, (Below.refl _ _).alloc (Nat.le_refl _) _⟩
  · have Q := Lib.hid (Tryd.bytes_Clone_at ⟨g, 0, none⟩ xs.length c xs w rfl (by omega) (fun i hi => by
      obtain ⟨b, o2, e1, hc⟩ := hb.at (by omega)
      simp at e1; obtain ⟨rfl, rfl⟩ := e1
      rw [Addr.add_lit]; exact hc i hi))
    clear h hb
    go_enter Tryd.func40, Tryd.ntmps40
    go_wp2_with fail
    refine Q.out.mono ?_
    rintro e w1 ⟨v', rfl, hown, hne, hbel⟩
    obtain ⟨o', r1, r2, r3⟩ := Row.of_owns hown
    obtain ⟨q', c', rfl, f1, f2, f3, f4⟩ := r1.form
    have F := Lib.hid (And.intro f1 (And.intro f2 (And.intro f3 (And.intro f4 (And.intro r2 hbel)))))
    clear f1 f2 f3 f4 r1 r2 r3 hown hbel hne
    go_wp2
    go_ret
    obtain ⟨f1, f2, f3, f4, r2, hbel⟩ := F.out
    refine ⟨w1.heap.size, rfl, ⟨q', c', 0, xs, Blk.new _ _ _, bytes_keep f1 ((Keep.refl (fun _ => False) w1).alloc _) (fun _ _ _ h => h), fun a ha => ?_, hr, f2, ⟨f3, by omega⟩, by decide, fun _ => rfl, rfl⟩, hbel.size, hbel.alloc hbel.size _⟩
    rcases f4 with ⟨rfl, _⟩ | ⟨g', h1, h2, h3⟩
    · cases ha
    · rw [h2] at ha; cases ha
      show g' < _
      omega
end Go.Proofs.YtgedpgdefafofaaDoor
end
