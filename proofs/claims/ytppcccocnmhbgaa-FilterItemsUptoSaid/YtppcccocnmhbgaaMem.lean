/- Memory: what a call leaves as it was; rows of bytes that an object owns. No program in sight. -/
import Derived.Test.YtppcccocnmhbgaaWideBase
import Derived.Shelf.Bytes.SlSmallAll
import Derived.ArgAppend
import Derived.Deep.AppendSrc
import Derived.Deep.Upon
namespace Go.Proofs.Ytppcccocnmhbgaa
open Go Go.RowKit

/-- the blocks that are not in X are as they were -/
structure Keep (X : Nat → Prop) (w w' : World) : Prop where
  os : w'.os = w.os
  tape : w'.tape = w.tape
  output : w'.output = w.output
  size : w.heap.size ≤ w'.heap.size
  block : ∀ k, k < w.heap.size → ¬ X k → w'.heap[k]? = w.heap[k]?
section
variable {X Y : Nat → Prop} {a b c w w' : World}
theorem Keep.refl (X : Nat → Prop) (w : World) : Keep X w w := ⟨rfl, rfl, rfl, Nat.le_refl _, fun _ _ _ => rfl⟩
theorem Keep.trans (h : Keep X a b) (k : Keep X b c) : Keep X a c :=
  ⟨k.os.trans h.os, k.tape.trans h.tape, k.output.trans h.output, Nat.le_trans h.size k.size, fun i hi hx => (k.block i (Nat.lt_of_lt_of_le hi h.size) hx).trans (h.block i hi hx)⟩
theorem Keep.mono (h : Keep X a b) (hx : ∀ k, X k → Y k) : Keep Y a b := ⟨h.os, h.tape, h.output, h.size, fun k hk hn => h.block k hk fun hX => hn (hx k hX)⟩
/-- what is written beyond a's own blocks counts for nothing -/
theorem Keep.trans' (h : Keep X a b) (k : Keep Y b c) (hx : ∀ k, Y k → X k ∨ a.heap.size ≤ k) : Keep X a c :=
  ⟨k.os.trans h.os, k.tape.trans h.tape, k.output.trans h.output, Nat.le_trans h.size k.size, fun i hi hn => (k.block i (Nat.lt_of_lt_of_le hi h.size) fun hY => by rcases hx i hY with h1 | h1; exact hn h1; omega).trans (h.block i hi hn)⟩
theorem Keep.alloc (h : Keep X a w) (o : Obj) : Keep X a (w.alloc o) :=
  h.trans ⟨rfl, rfl, rfl, by simp, fun k hk _ => Below.heap_alloc _ _ _ hk⟩
theorem Keep.drew (h : Keep X a w) : Keep X a w.drew := ⟨h.os, h.tape, h.output, h.size, h.block⟩
theorem Keep.set (h : Keep X a w) {p : Addr} (hp : X p.block ∨ a.heap.size ≤ p.block) (u : Value) : Keep X a (w.setCell p u) :=
  ⟨h.os, h.tape, h.output, by have := h.size; simpa [World.setCell] using this, fun k hk hn => (Below.heap_setCell w p u k (by rcases hp with hp | hp; exact fun e => hn (e ▸ hp); omega)).trans (h.block k hk hn)⟩
theorem Keep.setCells {g : Nat} (hg : X g ∨ a.heap.size ≤ g) : ∀ (vs : List Value) (o : Nat) {w : World}, Keep X a w → Keep X a (w.setCells g o vs)
  | [], _, _, h => h
  | v :: r, o, _, h => Keep.setCells hg r (o + 1) (h.set (p := ⟨g, o, none⟩) hg v)
theorem Keep.of_below (h : Below w.heap.size w w') : Keep X w w' := ⟨h.os, h.tape, h.output, h.size, fun k hk _ => h.block k hk⟩
theorem Keep.of_grown {row : Option Nat} (h : w.grownBy w' row) (hr : ∀ g, row = some g → X g) : Keep X w w' :=
  ⟨h.os, h.tape, h.output, h.size, fun k hk hn => h.block k hk fun e => hn (hr k e.symm)⟩
theorem Keep.below {B : Nat} (h : Keep X a w) (hB : B ≤ a.heap.size) (hx : ∀ k, X k → B ≤ k) : Below B a w :=
  ⟨h.os, h.tape, h.output, h.size, fun k hk => h.block k (Nat.lt_of_lt_of_le hk hB) fun hX => by have := hx k hX; omega⟩
theorem Keep.blk (h : Keep X a w) {g : Nat} {cs : Array Value} {t : TypeId} (hb : Blk a g cs t) (hn : ¬ X g) : Blk w g cs t := (h.block g hb.lt hn).trans hb
theorem Keep.cell (h : Keep X a w) {p : Addr} (hl : p.block < a.heap.size) (hn : ¬ X p.block) : w.cell? p = a.cell? p := World.cell?_of_block (h.block p.block hl hn)
end
theorem cell_lt {w : World} {p : Addr} {v : Value} (h : w.cell? p = some v) : p.block < w.heap.size := by
  rcases Nat.lt_or_ge p.block w.heap.size with hl | hl
  · exact hl
  · have : w.heap[p.block]? = none := Array.getElem?_eq_none hl
    unfold World.cell? at h
    rw [this] at h; cases h
theorem bytes_keep {X : Nat → Prop} {a w : World} {p : Option Addr} {n : Nat} {xs : List Int} (h : Lib.BytesIn a p n xs) (hk : Keep X a w) (hn : 0 < n → ∀ q, p = some q → ¬ X q.block) : Lib.BytesIn w p n xs := fun h0 => by
  obtain ⟨b, o, rfl, hc⟩ := h.at h0
  refine ⟨b, o, rfl, fun i hi => ?_⟩
  rw [hk.cell (p := ⟨b, o + i, none⟩) (cell_lt (hc i hi)) (fun hx => hn h0 ⟨b, o, none⟩ rfl hx)]
  exact hc i hi

theorem bytes_lt {w : World} {p : Option Addr} {n : Nat} {xs : List Int} (h : Lib.BytesIn w p n xs) (h0 : 0 < n) : ∀ q, p = some q → q.block < w.heap.size := fun q hq => by
  obtain ⟨b, o, e, hc⟩ := h.at h0
  rw [hq] at e; cases e
  exact cell_lt (p := ⟨b, o + 0, none⟩) (hc 0 h0)
/-- the cells of bytes -/
def u8s (xs : List Int) : List Value := xs.map (Value.int .u8)
theorem u8s_length (xs : List Int) : (u8s xs).length = xs.length := by simp [u8s]
theorem u8s_append (xs ys : List Int) : u8s (xs ++ ys) = u8s xs ++ u8s ys := by simp [u8s]
theorem u8s_get (xs : List Int) (i : Nat) (h : i < xs.length) : (u8s xs)[i]? = some (.int .u8 (xs.getD i 0)) := by simp [u8s, List.getD, h]
theorem u8s_one (xs : List Int) : ∀ u ∈ u8s xs, u.oneCell' = true := by intro u hu; obtain ⟨x, _, rfl⟩ := List.mem_map.1 hu; rfl
/-- a slice that holds bytes in a block of its own: nil (o = none), or from the head of block g on (o = some g) -/
def Row (w : World) (e : TypeId) (v : Value) (xs : List Int) (o : Option Nat) : Prop :=
  (v = .slice none 0 0 ∧ xs = [] ∧ o = none) ∨ ∃ g cap cur, o = some g ∧ v = .slice (some ⟨g, 0, none⟩) xs.length cap ∧ Blk w g cur e ∧ xs.length ≤ cap ∧ cap ≤ cur.size ∧ cap ≤ maxLen ∧ cur.toList.take xs.length = u8s xs
section
variable {w w' : World} {e : TypeId} {v : Value} {xs : List Int} {o : Option Nat} {g : Nat}
theorem Row.nil (w : World) (e : TypeId) : Row w e (.slice none 0 0) [] none := .inl ⟨rfl, rfl, rfl⟩
theorem Row.keep {X : Nat → Prop} (h : Row w e v xs o) (hk : Keep X w w') (hn : ∀ g, o = some g → ¬ X g) : Row w' e v xs o := by
  rcases h with h | ⟨g, cap, cur, h0, h1, h2, h3⟩
  · exact .inl h
  · exact .inr ⟨g, cap, cur, h0, h1, hk.blk h2 (hn g h0), h3⟩
theorem Row.lt (h : Row w e v xs o) : ∀ g, o = some g → g < w.heap.size := by
  intro g hg
  rcases h with ⟨_, _, h0⟩ | ⟨g', cap, cur, h0, h1, h2, h3⟩
  · rw [h0] at hg; cases hg
  · rw [h0] at hg; cases hg; exact h2.lt
theorem Row.cell {cur : Array Value} (hb : Blk w g cur e) (ht : cur.toList.take xs.length = u8s xs) (i : Nat) (hi : i < xs.length) : w.cell? ⟨g, i, none⟩ = some (.int .u8 (xs.getD i 0)) := by
  rw [hb.cell, ← u8s_get xs i hi, ← ht, List.getElem?_take, if_pos hi]; simp
/-- what it looks like -/
theorem Row.form (h : Row w e v xs o) : ∃ p c, v = .slice p xs.length c ∧ Lib.BytesIn w p xs.length xs ∧ xs.length ≤ c ∧ c ≤ maxLen ∧ (p = none ∧ xs = [] ∧ c = 0 ∧ o = none ∨ ∃ g, o = some g ∧ p = some ⟨g, 0, none⟩ ∧ g < w.heap.size) := by
  rcases h with ⟨rfl, rfl, rfl⟩ | ⟨g, cap, cur, h0, h1, h2, h3, h4, h5, h6⟩
  · exact ⟨none, 0, rfl, Lib.BytesIn.nil _ _ _, Nat.le_refl _, Nat.zero_le _, .inl ⟨rfl, rfl, rfl, rfl⟩⟩
  · exact ⟨_, cap, h1, fun _ => ⟨g, 0, rfl, fun i hi => by rw [Nat.zero_add]; exact Row.cell h2 h6 i hi⟩, h3, h5, .inr ⟨g, h0, rfl, h2.lt⟩⟩
/-- its first n bytes, and room for no more -/
theorem Row.cut {p : Option Addr} {c n : Nat} (h : Row w e (.slice p xs.length c) xs o) (hn : n ≤ xs.length) : Row w e (.slice p n n) (xs.take n) o := by
  have hl : (xs.take n).length = n := by simp; omega
  rcases h with ⟨h1, rfl, rfl⟩ | ⟨g, cap, cur, h0, h1, h2, h3, h4, h5, h6⟩
  · simp at h1 hn; obtain ⟨rfl, rfl⟩ := h1; subst hn; exact .inl ⟨rfl, by simp, rfl⟩
  · simp at h1
    obtain ⟨rfl, rfl⟩ := h1
    refine .inr ⟨g, n, cur, h0, by rw [hl], h2, by omega, by omega, by omega, ?_⟩
    rw [hl, show u8s (xs.take n) = (u8s xs).take n from by simp [u8s], ← h6, List.take_take, Nat.min_eq_left hn]
/-- a row that a call made -/
theorem Row.of_owns {B n : Nat} (h : w.ownsRow B e 1 v n (xs.map (Value.int .u8))) : ∃ o, Row w e v xs o ∧ (∀ g, o = some g → B ≤ g ∧ g < w.heap.size) ∧ (0 < n → ∃ g, o = some g) := by
  obtain ⟨hl, h⟩ := h
  have hn : xs.length = n := by simpa using hl
  subst hn
  rcases h with ⟨rfl, h0⟩ | ⟨g, cap, cur, rfl, hB, hg, h3, h4, h5, h6⟩
  · exact ⟨none, .inl ⟨rfl, List.eq_nil_of_length_eq_zero h0, rfl⟩, fun g hg => by (cases hg), fun h => by omega⟩
  · exact ⟨some g, .inr ⟨g, cap, cur, rfl, rfl, hg, h3, by omega, h4, by simpa [u8s] using h6⟩, fun g' hg' => by (cases hg'; exact ⟨hB, (Array.getElem?_eq_some_iff.1 hg).1⟩), fun _ => ⟨g, rfl⟩⟩
theorem take_setCells (cur : List Value) (n : Nat) (news : List Value) (h : n + news.length ≤ cur.length) : (cur.take n ++ news ++ cur.drop (n + news.length)).take (n + news.length) = cur.take n ++ news := by
  have : (cur.take n ++ news).length = n + news.length := by simp; omega
  rw [← this]; exact List.take_left
/-- a row written from n on -/
theorem Blk.setMid {c : Array Value} {t : TypeId} (h : Blk w g c t) (n : Nat) (news : List Value) (hn : n + news.length ≤ c.size) :
    Blk (w.setCells g n news) g (c.toList.take n ++ news ++ c.toList.drop (n + news.length)).toArray t := by
  -- one cell after the other
  have key : ∀ (vs : List Value) (o : Nat) (w : World) (pre mid post : List Value), pre.length = o → mid.length = vs.length → Blk w g (pre ++ mid ++ post).toArray t → Blk (w.setCells g o vs) g (pre ++ vs ++ post).toArray t := by
    intro vs
    induction vs with
    | nil =>
      intro o w pre mid post _ h2 h
      have : mid = [] := List.length_eq_zero_iff.1 h2
      subst this; exact h
    | cons v r ih =>
      intro o w pre mid post h1 h2 h
      match mid, h2, h with
      | p :: mid, h2, h =>
        have e1 : (pre ++ p :: mid ++ post).toArray.setIfInBounds o v = ((pre ++ [v]) ++ mid ++ post).toArray := by subst h1; simp
        have h3 := h.set o v
        rw [e1] at h3
        have := ih (o + 1) (w.setCell ⟨g, o, none⟩ v) (pre ++ [v]) mid post (by simp [h1]) (by simpa using h2) h3
        simpa [World.setCells] using this
  refine key news n w (c.toList.take n) ((c.toList.drop n).take news.length) (c.toList.drop (n + news.length)) (by simp; omega) (by simp; omega) ?_
  have e2 : c.toList.take n ++ (c.toList.drop n).take news.length ++ c.toList.drop (n + news.length) = c.toList := by
    rw [List.append_assoc, ← List.drop_drop, List.take_append_drop, List.take_append_drop]
  rw [e2]; exact h

/-- THE LAW OF APPEND onto such a row, out of whatever slice of bytes -/
theorem row_appendL {P : Program} (t ty : TypeId) (i : TypeInfo) (z : Value) (ht : P.underlying t = some (.slice e)) (hi : P.info? e = some i) (hz : i.zero = some z) (hs : i.size = 1) (hby : i.bytes = 1) (hzs : z.cells.size = 1)
    (h : Row w e v xs o) {p : Option Addr} {c : Nat} {ys : List Int} (hy : Lib.BytesIn w p ys.length ys) (hb : xs.length + ys.length ≤ 140737488355328) :
    ∃ v' w' o', (Builtin.append_ #[t, t] ty #[v, .slice p ys.length c]).run P w = .ok v' w' ∧ Row w' e v' (xs ++ ys) o' ∧ (o' = o ∨ ∃ g', o' = some g' ∧ w.heap.size ≤ g') ∧ Keep (fun k => o = some k) w w' := by
  by_cases h0 : ys.length = 0
  · obtain rfl : ys = [] := List.eq_nil_of_length_eq_zero h0
    obtain ⟨q, c2, rfl, _, hc2, _⟩ := h.form
    refine ⟨_, w, o, ?_, by rw [List.append_nil]; exact h, .inl rfl, Keep.refl _ _⟩
    cases q <;> cases p <;> simp [Builtin.append_, run_underlying ht, sizeOf, typeInfo, hi, Builtin.lenOf, hc2, Builtin.firstCells, loadCells, loadCellsFrom, storeCells]
  · obtain ⟨pb, po, rfl, hc⟩ := hy.at (by omega)
    have hl : (u8s ys).length = ys.length * i.size := by rw [u8s_length, hs, Nat.mul_one]
    have hnews : ∀ j u, (u8s ys)[j]? = some u → w.cell? ((⟨pb, po, none⟩ : Addr).add j) = some u := by
      intro j u hu
      have hj : j < ys.length := by have := (List.getElem?_eq_some_iff.1 hu).1; simpa [u8s_length] using this
      rw [u8s_get ys j hj] at hu
      rw [Addr.add_lit, hc j hj]; exact hu
    rcases h with ⟨rfl, rfl, rfl⟩ | ⟨g, cap, cur, rfl, rfl, h2, h3, h4, h5, h6⟩
    · obtain ⟨v', w', r1, r2, r3, r4⟩ := run_append_own (P := P) w w.heap.size t ty e i z 1 1 ht hi hz hs hby hzs (by decide) (.slice none 0 0) 0 [] (World.ownsRow_nil w _ e 1) ⟨pb, po, none⟩ ys.length c (u8s ys) (by rw [hl, hs]) hnews (u8s_one ys) (by unfold maxLen; omega) (by omega) (Nat.le_refl _)
      rw [Nat.zero_add, List.nil_append] at r2
      obtain ⟨o', q1, q2, q3⟩ := Row.of_owns r2
      obtain ⟨g', rfl⟩ := q3 (by omega)
      exact ⟨v', w', some g', r1, by simpa using q1, .inr ⟨g', rfl, (q2 g' rfl).1⟩, Keep.of_grown r3 (fun g hg => by simp [Value.ownBlock] at hg)⟩
    · by_cases hroom : xs.length + ys.length ≤ cap
      · have hlt : ∀ j, j < (u8s ys).length → 0 + xs.length * i.size + j < cur.size := by intro j hj; rw [u8s_length] at hj; rw [hs]; omega
        have hr := run_append_room_cells (P := P) w t ty e i ht hi g 0 xs.length cap ⟨pb, po, none⟩ ys.length c (u8s ys) hl hnews (u8s_one ys) hroom
          (fun j hj => by rw [h2.cell, Array.getElem?_eq_getElem (hlt j hj)]; rfl) (fun j _ => h2.free _)
        refine ⟨_, _, some g, hr, .inr ⟨g, cap, (cur.toList.take xs.length ++ u8s ys ++ cur.toList.drop (xs.length + (u8s ys).length)).toArray, rfl, by rw [List.length_append], ?_, by rw [List.length_append]; exact hroom, ?_, h5, ?_⟩, .inl rfl, Keep.setCells (X := fun k => some g = some k) (.inl rfl) _ _ (Keep.refl _ _)⟩
        · rw [show 0 + xs.length * i.size = xs.length from by rw [hs]; omega]
          exact h2.setMid xs.length (u8s ys) (by rw [u8s_length]; omega)
        · simp [u8s_length]; omega
        · rw [List.length_append, List.toList_toArray, ← u8s_length ys, take_setCells _ _ _ (by simp [u8s_length]; omega), h6, u8s_append]
      · obtain ⟨v', w', r1, r2, r3⟩ := run_append_arg_grows (P := P) w t ty e i z 1 1 ht hi hz hs hby hzs (by decide) ⟨g, 0, none⟩ xs.length cap (u8s xs) (by simp [u8s_length])
          (fun j u hu => by
            have hj : j < xs.length := by have := (List.getElem?_eq_some_iff.1 hu).1; simpa [u8s_length] using this
            rw [u8s_get xs j hj] at hu
            rw [Addr.add_lit, Nat.zero_add, Row.cell h2 h6 j hj]; exact hu)
          ⟨pb, po, none⟩ ys.length c (u8s ys) (by rw [hl, hs]) hnews (by omega) (by unfold maxLen; omega) (by omega)
        obtain ⟨o', q1, q2, q3⟩ := Row.of_owns (xs := xs ++ ys) (by simpa [u8s] using r2)
        obtain ⟨g', rfl⟩ := q3 (by omega)
        exact ⟨v', w', some g', r1, q1, .inr ⟨g', rfl, (q2 g' rfl).1⟩, Keep.of_grown r3 (fun g hg => by cases hg)⟩
theorem row_append {P : Program} (t ty : TypeId) (i : TypeInfo) (z : Value) (ht : P.underlying t = some (.slice e)) (hi : P.info? e = some i) (hz : i.zero = some z) (hs : i.size = 1) (hby : i.bytes = 1) (hzs : z.cells.size = 1)
    (h : Row w e v xs o) {p : Option Addr} {c : Nat} {ys : List Int} (hy : Lib.BytesIn w p ys.length ys) (hb : xs.length + ys.length ≤ 1099511627776) :
    ∃ v' w' o', (Builtin.append_ #[t, t] ty #[v, .slice p ys.length c]).run P w = .ok v' w' ∧ Row w' e v' (xs ++ ys) o' ∧ (o' = o ∨ ∃ g', o' = some g' ∧ w.heap.size ≤ g') ∧ Keep (fun k => o = some k) w w' :=
  row_appendL t ty i z ht hi hz hs hby hzs h hy (by omega)
end
/-- 'append' at the list of a region's operations, once its run is known -/
theorem wpl_append {P : Program} {w w' : World} {ops : Array Oper} {rest : List Oper} {o : Oper} {a : Act} {Q : Exit → Act → World → Prop} (hgd : o.guard = none) (s x : Operand) (t : TypeId)
    (ho : o.op = .call { callee := .builtin .append, args := #[s, x], argTypes := #[t, t] }) {v1 v2 v' : Value} (hs : a.eval s = v1) (hx : a.eval x = v2)
    (hrun : (Builtin.append_ #[t, t] o.type #[v1, v2]).run P w = .ok v' w') (h : wpList P ops Q rest (a.put o.dst v') w') : wpList P ops Q (o :: rest) a w := by
  refine wpList_plain hgd fun K hK' => ?_
  unfold Oper.wp
  simp [execOp, ho, resolve, invoke, builtin, hs, hx, hrun, Result.andThen]
  exact hK' _ _ h
end Go.Proofs.Ytppcccocnmhbgaa
