/- A slice of elements of any kind, in a block of its own. No program in sight. -/
import Derived.Test.YtppcccocnmhbgaaMem
namespace Go.Proofs.Ytppcccocnmhbgaa
open Go Go.RowKit

/-- v is a slice of n elements of k cells each, the cells cs: nil (o = none), or from the head of block g on (o = some g) -/
def RowV (w : World) (e : TypeId) (k : Nat) (v : Value) (n : Nat) (cs : List Value) (o : Option Nat) : Prop :=
  cs.length = n * k ∧ ((v = .slice none 0 0 ∧ n = 0 ∧ o = none) ∨ ∃ g cap cur, o = some g ∧ v = .slice (some ⟨g, 0, none⟩) n cap ∧ Blk w g cur e ∧ n ≤ cap ∧ cap * k ≤ cur.size ∧ cap ≤ maxLen ∧ cur.toList.take (n * k) = cs)
section
variable {w w' : World} {e : TypeId} {k : Nat} {v : Value} {n : Nat} {cs : List Value} {o : Option Nat} {g : Nat}
theorem RowV.nil (w : World) (e : TypeId) (k : Nat) : RowV w e k (.slice none 0 0) 0 [] none := ⟨by simp, .inl ⟨rfl, rfl, rfl⟩⟩
theorem RowV.keep {X : Nat → Prop} (h : RowV w e k v n cs o) (hk : Keep X w w') (hn : ∀ g, o = some g → ¬ X g) : RowV w' e k v n cs o := by
  obtain ⟨hl, h | ⟨g, cap, cur, h0, h1, h2, h3⟩⟩ := h
  · exact ⟨hl, .inl h⟩
  · exact ⟨hl, .inr ⟨g, cap, cur, h0, h1, hk.blk h2 (hn g h0), h3⟩⟩
theorem RowV.lt (h : RowV w e k v n cs o) : ∀ g, o = some g → g < w.heap.size := by
  intro g hg
  obtain ⟨hl, ⟨_, _, h0⟩ | ⟨g', cap, cur, h0, h1, h2, h3⟩⟩ := h
  · rw [h0] at hg; cases hg
  · rw [h0] at hg; cases hg; exact h2.lt
/-- what it looks like -/
theorem RowV.form (h : RowV w e k v n cs o) : ∃ p c, v = .slice p n c ∧ n ≤ c ∧ c ≤ maxLen ∧ (p = none ∧ n = 0 ∧ c = 0 ∧ o = none ∨ ∃ g, o = some g ∧ p = some ⟨g, 0, none⟩ ∧ g < w.heap.size) := by
  obtain ⟨hl, ⟨rfl, rfl, rfl⟩ | ⟨g, cap, cur, h0, h1, h2, h3, h4, h5, h6⟩⟩ := h
  · exact ⟨none, 0, rfl, Nat.le_refl _, Nat.zero_le _, .inl ⟨rfl, rfl, rfl, rfl⟩⟩
  · exact ⟨_, cap, h1, h3, h5, .inr ⟨g, h0, rfl, h2.lt⟩⟩
/-- one that has elements lies in a block -/
theorem RowV.mem (h : RowV w e k v n cs o) (h0 : 0 < n) : ∃ g cap, o = some g ∧ v = .slice (some ⟨g, 0, none⟩) n cap ∧ n ≤ cap ∧ cap ≤ maxLen ∧ g < w.heap.size ∧ (∀ j, j < n * k → w.cell? ⟨g, j, none⟩ = cs[j]?) ∧ (∀ j, w.frozen? ⟨g, j, none⟩ = false) := by
  obtain ⟨hl, ⟨rfl, rfl, rfl⟩ | ⟨g, cap, cur, h0, h1, h2, h3, h4, h5, h6⟩⟩ := h
  · omega
  · exact ⟨g, cap, h0, h1, h3, h5, h2.lt, fun j hj => by rw [h2.cell, ← h6, List.getElem?_take, if_pos hj]; simp, fun j => h2.free j⟩
/-- a cell of it set -/
theorem RowV.set {cap : Nat} (h : RowV w e k (.slice (some ⟨g, 0, none⟩) n cap) n cs (some g)) (j : Nat) (u : Value) (_ : j < n * k) : RowV (w.setCell ⟨g, j, none⟩ u) e k (.slice (some ⟨g, 0, none⟩) n cap) n (cs.set j u) (some g) := by
  obtain ⟨hl, ⟨h1, _, _⟩ | ⟨g', cap', cur, h0, h1, h2, h3, h4, h5, h6⟩⟩ := h
  · cases h1
  · cases h0; cases h1
    refine ⟨by simp [hl], .inr ⟨g, cap, _, rfl, rfl, h2.set j u, h3, by simpa using h4, h5, ?_⟩⟩
    rw [← h6]; simp [List.take_set]
theorem RowV.toRow {xs : List Int} (h : RowV w e 1 v n (u8s xs) o) : Row w e v xs o := by
  obtain ⟨hl, h⟩ := h
  rw [u8s_length, Nat.mul_one] at hl
  subst hl
  rcases h with ⟨h1, h2, h3⟩ | ⟨g, cap, cur, h0, h1, h2, h3, h4, h5, h6⟩
  · exact .inl ⟨h1, List.eq_nil_of_length_eq_zero h2, h3⟩
  · exact .inr ⟨g, cap, cur, h0, h1, h2, h3, by omega, h5, by simpa using h6⟩
theorem RowV.of_owns {B : Nat} (h : w.ownsRow B e k v n cs) : ∃ o, RowV w e k v n cs o ∧ (∀ g, o = some g → B ≤ g ∧ g < w.heap.size) ∧ (0 < n → ∃ g, o = some g) := by
  obtain ⟨hl, h⟩ := h
  rcases h with ⟨rfl, h0⟩ | ⟨g, cap, cur, rfl, hB, hg, h3, h4, h5, h6⟩
  · exact ⟨none, ⟨hl, .inl ⟨rfl, h0, rfl⟩⟩, fun g hg => by (cases hg), fun h => by omega⟩
  · exact ⟨some g, ⟨hl, .inr ⟨g, cap, cur, rfl, rfl, hg, h3, by omega, h4, h6⟩⟩, fun g' hg' => by (cases hg'; exact ⟨hB, (Array.getElem?_eq_some_iff.1 hg).1⟩), fun _ => ⟨g, rfl⟩⟩

/-- THE LAW OF APPEND onto such a row, out of whatever cells -/
theorem rowV_append {P : Program} (t ty : TypeId) (i : TypeInfo) (z : Value) {by1 : Nat} (ht : P.underlying t = some (.slice e)) (hi : P.info? e = some i) (hz : i.zero = some z) (hs : i.size = k) (hby : i.bytes = by1) (hzs : z.cells.size = k) (hk : 0 < k)
    (h : RowV w e k v n cs o) {a : Addr} {m c : Nat} {news : List Value} (hl : news.length = m * k) (hnews : ∀ j u, news[j]? = some u → w.cell? (a.add j) = some u) (h1 : ∀ u ∈ news, u.oneCell' = true) (hm : 0 < m) (hmax : n + m ≤ maxLen) (hb : (n + m) * by1 ≤ 140737488355328) :
    ∃ v' w' g', (Builtin.append_ #[t, t] ty #[v, .slice (some a) m c]).run P w = .ok v' w' ∧ RowV w' e k v' (n + m) (cs ++ news) (some g') ∧ (o = some g' ∨ w.heap.size ≤ g') ∧ Keep (fun k => o = some k) w w' := by
  obtain ⟨hlc, ⟨rfl, rfl, rfl⟩ | ⟨g, cap, cur, rfl, rfl, h2, h3, h4, h5, h6⟩⟩ := h
  · obtain rfl : cs = [] := List.eq_nil_of_length_eq_zero (by simpa using hlc)
    obtain ⟨v', w', r1, r2, r3, r4⟩ := run_append_own (P := P) w w.heap.size t ty e i z k by1 ht hi hz hs hby hzs hk (.slice none 0 0) 0 [] (World.ownsRow_nil w _ e k) a m c news hl hnews h1 hmax hb (Nat.le_refl _)
    obtain ⟨o', q1, q2, q3⟩ := RowV.of_owns r2
    obtain ⟨g', rfl⟩ := q3 (by omega)
    exact ⟨v', w', g', r1, q1, .inr (q2 g' rfl).1, Keep.of_grown r3 (fun g hg => by simp [Value.ownBlock] at hg)⟩
  · by_cases hroom : n + m ≤ cap
    · subst hs
      have hfit : (n + m) * i.size ≤ cap * i.size := Nat.mul_le_mul_right _ hroom
      rw [Nat.add_mul] at hfit
      have hlt : ∀ j, j < news.length → 0 + n * i.size + j < cur.size := by intro j hj; omega
      have hr := run_append_room_cells (P := P) w t ty e i ht hi g 0 n cap a m c news hl hnews h1 hroom
        (fun j hj => by rw [h2.cell, Array.getElem?_eq_getElem (hlt j hj)]; rfl) (fun j _ => h2.free _)
      refine ⟨_, _, g, hr, ⟨?_, .inr ⟨g, cap, (cur.toList.take (n * i.size) ++ news ++ cur.toList.drop (n * i.size + news.length)).toArray, rfl, rfl, ?_, hroom, ?_, h5, ?_⟩⟩, .inl rfl, Keep.setCells (X := fun k => some g = some k) (.inl rfl) _ _ (Keep.refl _ _)⟩
      · rw [List.length_append, hlc, hl, Nat.add_mul]
      · rw [show 0 + n * i.size = n * i.size from by omega]
        exact h2.setMid (n * i.size) news (by omega)
      · simp; omega
      · rw [List.toList_toArray, Nat.add_mul, ← hl, take_setCells _ _ _ (by simp; omega), h6]
    · obtain ⟨v', w', r1, r2, r3⟩ := run_append_arg_grows (P := P) w t ty e i z k by1 ht hi hz hs hby hzs hk ⟨g, 0, none⟩ n cap cs hlc
        (fun j u hu => by
          have hj : j < n * k := by have := (List.getElem?_eq_some_iff.1 hu).1; omega
          rw [Addr.add_lit, Nat.zero_add, h2.cell, ← hu, ← h6, List.getElem?_take, if_pos hj]; simp)
        a m c news hl hnews (by omega) hmax hb
      obtain ⟨o', q1, q2, q3⟩ := RowV.of_owns r2
      obtain ⟨g', rfl⟩ := q3 (by omega)
      exact ⟨v', w', g', r1, q1, .inr (q2 g' rfl).1, Keep.of_grown r3 (fun g hg => by cases hg)⟩
/-- ONE element of one cell, laid in a block of its own first, as 'append(xs, x)' does -/
theorem rowV_append1 {P : Program} (t ty : TypeId) (i : TypeInfo) (z : Value) {by1 : Nat} (ht : P.underlying t = some (.slice e)) (hi : P.info? e = some i) (hz : i.zero = some z) (hs : i.size = 1) (hby : i.bytes = by1) (hzs : z.cells.size = 1)
    (h : RowV w e 1 v n cs o) (u : Value) (hu : u.oneCell' = true) (hmax : n + 1 ≤ maxLen) (hb : (n + 1) * by1 ≤ 140737488355328) :
    ∃ g' cap' w', (Builtin.append_ #[t, t] ty #[v, .slice (some ⟨w.heap.size, 0, none⟩) 1 1]).run P (w.alloc (.cells #[u] e)) = .ok (.slice (some ⟨g', 0, none⟩) (n + 1) cap') w' ∧ RowV w' e 1 (.slice (some ⟨g', 0, none⟩) (n + 1) cap') (n + 1) (cs ++ [u]) (some g') ∧ (o = some g' ∨ w.heap.size ≤ g') ∧ Keep (fun k => o = some k) w w' := by
  have h' := h.keep (X := fun _ => False) ((Keep.refl _ w).alloc (.cells #[u] e)) (fun _ _ h => h)
  obtain ⟨v', w', g', r1, r2, r3, r4⟩ := rowV_append (P := P) t ty i z ht hi hz hs hby hzs (by decide) h' (a := ⟨w.heap.size, 0, none⟩) (m := 1) (c := 1) (news := [u]) rfl (fun j x hx => by
    match j, hx with
    | 0, hx => cases hx; rw [Addr.add_lit, (Blk.new w #[u] e).cell]; rfl
    | j + 1, hx => simp at hx) (by simpa using hu) (by decide) hmax hb
  obtain ⟨p, cap', rfl, _, _, ⟨_, h0, _, _⟩ | ⟨g2, h2, rfl, _⟩⟩ := r2.form
  · omega
  · cases h2
    exact ⟨g', cap', w', r1, r2, r3.imp id (fun h => by simp at h; omega), ((Keep.refl _ w).alloc _).trans r4⟩
end
end Go.Proofs.Ytppcccocnmhbgaa
