import Derived.Test.YtppcccocnmhbgaaFl6
import Derived.Test.YtppcccocnmhbgaaFl16
import Derived.Test.YtppcccocnmhbgaaFl18
import Derived.Laws.BytesArg
import Derived.Lib.Strings
section
/- Maps with keys of any kind that has a law, told by a function on the keys' values. No program in sight. -/
namespace Go.Proofs.Ytppcccocnmhbgaa
open Go Go.RowKit Go.Maps Go.ChangeMaps

/-- block b is a map with keys of type k, of n entries; f tells what is at a key -/
def KMap (P : Program) (k : TypeId) (w : World) (b : Nat) (f : Value → Option Value) (n : Nat) : Prop :=
  ∃ D : DataW Value, w.ownsMap P k RV b n D ∧ Maps.size D = n ∧ ∀ x l, keyOf P k x = some l → Maps.has D l = (f x).isSome ∧ ∀ v, f x = some v → ∀ z, D.atKey l z = .held v
section
variable {P : Program} {k : TypeId} {w w' : World} {b n : Nat} {f : Value → Option Value} {D : DataW Value}
theorem KMap.made (w : World) (P : Program) (k : TypeId) : KMap P k (w.alloc (.map #[] 0)) w.heap.size (fun _ => none) 0 :=
  ⟨_, World.ownsMap_made w P k RV, rfl, fun x l _ => ⟨rfl, fun v hv => by cases hv⟩⟩
theorem KMap.lt (h : KMap P k w b f n) : b < w.heap.size := by obtain ⟨D, h1, _⟩ := h; exact h1.lt
theorem KMap.keep {X : Nat → Prop} (h : KMap P k w b f n) (hk : Keep X w w') (hn : ¬ X b) : KMap P k w' b f n := by
  obtain ⟨D, h1, h2⟩ := h
  have hl := h1.lt
  obtain ⟨es, clock, hb, r⟩ := h1
  exact ⟨D, ⟨es, clock, (hk.block b hl hn).trans hb, r⟩, h2⟩
theorem KMap.drew (h : KMap P k w b f n) : KMap P k w.drew b f n := h
theorem KMap.at (h : KMap P k w b f n) {x : Value} {l : Lit} (hx : keyOf P k x = some l) : ∃ D : DataW Value, w.ownsMap P k RV b n D ∧ (∀ z, D.atKey l (.held z) = .held ((f x).getD z)) ∧ Maps.has D l = (f x).isSome := by
  obtain ⟨D, h1, h2, h3⟩ := h
  obtain ⟨e1, e2⟩ := h3 x l hx
  refine ⟨D, h1, fun z => ?_, e1⟩
  cases hf : f x with
  | none =>
    rw [hf] at e1
    exact atKey_of_not_has e1 _
  | some v => exact e2 v hf _
/-- 'm[k]' -/
theorem KMap.look (h : KMap P k w b f n) {t e : TypeId} (K : Keyed P k) (ht : P.underlying t = some (.map k e)) {z : Value} (hz : (zeroValue e).run P w = .ok z w) {x : Value} {l : Lit} (hx : keyOf P k x = some l) :
    (Instr.lookup t (.map (some b)) x false).run P w = .ok ((f x).getD z) w := by
  obtain ⟨D, h1, h2, _⟩ := h.at hx
  obtain ⟨v, ps, hrun, hv⟩ := h1.lookup K ht hz (R := RV) (zd := .held z) (zp := []) rfl hx
  have e1 := RV_inv hv
  rw [h2 z] at e1
  rw [hrun]
  injection e1 with e1
  rw [e1]
/-- 'v, ok := m[k]' -/
theorem KMap.lookOk (h : KMap P k w b f n) {t e : TypeId} (K : Keyed P k) (ht : P.underlying t = some (.map k e)) {z : Value} (hz : (zeroValue e).run P w = .ok z w) {x : Value} {l : Lit} (hx : keyOf P k x = some l) :
    (Instr.lookup t (.map (some b)) x true).run P w = .ok (.tuple #[(f x).getD z, .bool (f x).isSome]) w := by
  obtain ⟨D, h1, h2, h3⟩ := h.at hx
  obtain ⟨v, ps, hrun, hv⟩ := h1.look_ok K ht hz (R := RV) (zd := .held z) (zp := []) rfl hx
  have e1 := RV_inv hv
  rw [h2 z] at e1
  rw [hrun, h3]
  injection e1 with e1
  rw [e1]
/-- 'len(m)' -/
theorem KMap.len (h : KMap P k w b f n) {t e : TypeId} (ht : P.underlying t = some (.map k e)) (ty : TypeId) : (Builtin.len_ #[t] ty #[.map (some b)]).run P w = .ok (.int .i64 (n : Int)) w := by
  obtain ⟨D, h1, h2, _⟩ := h
  rw [h1.len ht ty, h2]
/-- 'm[k] = v' -/
theorem KMap.store (h : KMap P k w b f n) {t e : TypeId} (K : Keyed P k) (ht : P.underlying t = some (.map k e)) (hn : n < maxLen) {x : Value} {l : Lit} (hx : keyOf P k x = some l) (v : Value) (f' : Value → Option Value) (hs : f' x = some v) (ho : ∀ y, y ≠ x → f' y = f y) :
    ∃ w', (Instr.mapUpdate t (.map (some b)) x v).run P w = .ok () w' ∧ KMap P k w' b f' (if (f x).isSome then n else n + 1) ∧ Keep (fun k => k = b) w w' := by
  obtain ⟨D, h1, h2, h3⟩ := h
  obtain ⟨w1, hrun, r1, r2⟩ := h1.store K ht hn (R := RV) (d := .held v) (ps := []) hx rfl
  have hsz := size_put (k := l) (h1.tidy K) (.held v : DataW Value)
  rw [(h3 x l hx).1, h2] at hsz
  refine ⟨w1, hrun, ⟨D.put l (.held v), ?_, hsz, fun y ly hy => ?_⟩, Keep.of_turned r2⟩
  · have := ownsMap_tight r1
    rw [hsz] at this
    exact this
  · by_cases hyx : y = x
    · subst hyx
      obtain rfl : ly = l := Option.some.inj (hy.symm.trans hx)
      rw [hs]
      refine ⟨has_put_same h1.isMap (K.key hx) _, fun v' hv' z => ?_⟩
      cases hv'
      exact atKey_put_same h1.isMap (K.key hx) _ _
    · rw [ho y hyx]
      have hll : ly ≠ l := fun e => hyx (K.inj hy (e ▸ hx))
      refine ⟨(has_put_other hll _).trans (h3 y ly hy).1, fun v' hv' z => (atKey_put_other hll _ _).trans ((h3 y ly hy).2 v' hv' z)⟩
/-- 'delete(m, k)' -/
theorem KMap.drop (h : KMap P k w b f n) {t e : TypeId} (K : Keyed P k) (ht : P.underlying t = some (.map k e)) {x : Value} {l : Lit} (hx : keyOf P k x = some l) (ty : TypeId) (f' : Value → Option Value) (hs : f' x = none) (ho : ∀ y, y ≠ x → f' y = f y) :
    ∃ w', (Builtin.delete_ #[t, k] ty #[.map (some b), x]).run P w = .ok (.tuple #[]) w' ∧ KMap P k w' b f' (if (f x).isSome then n - 1 else n) ∧ Keep (fun k => k = b) w w' := by
  obtain ⟨D, h1, h2, h3⟩ := h
  obtain ⟨w1, hrun, r1, r2⟩ := h1.drop K ht hx ty
  have hsz := size_del (k := l) (h1.tidy K)
  rw [(h3 x l hx).1, h2] at hsz
  have hsz2 : Maps.size (D.del l) = if (f x).isSome then n - 1 else n := by
    cases hf : (f x).isSome <;> rw [hf] at hsz <;> simp at hsz ⊢ <;> omega
  refine ⟨w1, hrun, ⟨D.del l, ?_, hsz2, fun y ly hy => ?_⟩, Keep.of_turned r2⟩
  · have := ownsMap_tight r1
    rw [hsz2] at this
    exact this
  · by_cases hyx : y = x
    · subst hyx
      obtain rfl : ly = l := Option.some.inj (hy.symm.trans hx)
      rw [hs]
      exact ⟨has_del_same, fun v' hv' => by cases hv'⟩
    · rw [ho y hyx]
      have hll : ly ≠ l := fun e => hyx (K.inj hy (e ▸ hx))
      refine ⟨(has_del_other hll).trans (h3 y ly hy).1, fun v' hv' z => (atKey_del_other hll _).trans ((h3 y ly hy).2 v' hv' z)⟩
end
theorem keyOf_string {P : Program} {k : TypeId} (hk : P.underlying k = some .string) (s : ByteArray) (hs : s.size ≤ maxLen) : keyOf P k (.string s) = some (.string s.data.toList) := by
  simp [keyOf, hk, mapKey, hs]
end Go.Proofs.Ytppcccocnmhbgaa
end

section
/- filter.once and the document's unlike: items that are not empty, each once. -/
namespace Go.Proofs.Ytppcccocnmhbgaa
open Go Go.RowKit Go.Maps Go.ChangeMaps
set_option linter.unusedSimpArgs false
set_option linter.unusedVariables false
set_option maxRecDepth 100000

/-- items that are not empty, each once, in order -/
def unlikeN (Z : Nat → List Int) : Nat → List (List Int)
  | 0 => []
  | k + 1 => if Z k = [] ∨ Z k ∈ unlikeN Z k then unlikeN Z k else unlikeN Z k ++ [Z k]
theorem unlikeN_skip {Z : Nat → List Int} {k : Nat} (h : Z k = [] ∨ Z k ∈ unlikeN Z k) : unlikeN Z (k + 1) = unlikeN Z k := by show (if _ then _ else _) = _; rw [if_pos h]
theorem unlikeN_more {Z : Nat → List Int} {k : Nat} (h : ¬ (Z k = [] ∨ Z k ∈ unlikeN Z k)) : unlikeN Z (k + 1) = unlikeN Z k ++ [Z k] := by show (if _ then _ else _) = _; rw [if_neg h]
theorem unlikeN_len (Z : Nat → List Int) : ∀ k, (unlikeN Z k).length ≤ k
  | 0 => Nat.le_refl _
  | k + 1 => by
    have := unlikeN_len Z k
    by_cases h : Z k = [] ∨ Z k ∈ unlikeN Z k
    · rw [unlikeN_skip h]; omega
    · rw [unlikeN_more h, List.length_append]; simp; omega
theorem unlikeN_mem {Z : Nat → List Int} : ∀ {k : Nat} {x : List Int}, x ∈ unlikeN Z k → ∃ i, i < k ∧ x = Z i
  | k + 1, x, h => by
    by_cases hc : Z k = [] ∨ Z k ∈ unlikeN Z k
    · rw [unlikeN_skip hc] at h
      obtain ⟨i, hi, e⟩ := unlikeN_mem h
      exact ⟨i, by omega, e⟩
    · rw [unlikeN_more hc, List.mem_append] at h
      rcases h with h | h
      · obtain ⟨i, hi, e⟩ := unlikeN_mem h
        exact ⟨i, by omega, e⟩
      · exact ⟨k, by omega, by simpa using h⟩
/-- bytes as a string say the bytes -/
theorem strOf_inj {xs ys : List Int} (hx : ∀ y ∈ xs, 0 ≤ y ∧ y ≤ 255) (hy : ∀ y ∈ ys, 0 ≤ y ∧ y ≤ 255) (h : (strOfNums xs).data.toList = (strOfNums ys).data.toList) : xs = ys := by
  rw [strOfNums_data, strOfNums_data] at h
  induction xs generalizing ys with
  | nil => cases ys with
    | nil => rfl
    | cons y r => simp at h
  | cons x r ih => cases ys with
    | nil => simp at h
    | cons y s =>
      simp only [List.map_cons, List.cons.injEq] at h
      obtain ⟨h1, h2⟩ := h
      have e : x = y := by
        have := congrArg UInt8.toNat h1
        rw [UInt8.toNat_ofNat', UInt8.toNat_ofNat'] at this
        have a := hx x (List.mem_cons_self ..)
        have b := hy y (List.mem_cons_self ..)
        omega
      rw [e, ih (fun z hz => hx z (List.mem_cons_of_mem _ hz)) (fun z hz => hy z (List.mem_cons_of_mem _ hz)) h2]
/-- what the map of those that were met has -/
def metF (acc : List (List Int)) : Value → Option Value
  | .string s => if acc.any (fun Z => (strOfNums Z).data.toList == s.data.toList) then some (.bool true) else none
  | _ => none
theorem metF_str (acc : List (List Int)) (s : ByteArray) : metF acc (.string s) = if acc.any (fun Z => (strOfNums Z).data.toList == s.data.toList) then some (.bool true) else none := rfl
theorem metF_nil : metF [] = fun _ => none := by funext v; cases v <;> rfl
theorem metF_look {acc : List (List Int)} (ha : ∀ x ∈ acc, ∀ y ∈ x, 0 ≤ y ∧ y ≤ 255) {x : List Int} (hx : ∀ y ∈ x, 0 ≤ y ∧ y ≤ 255) : (metF acc (.string (strOfNums x))).getD (.bool false) = .bool (decide (x ∈ acc)) := by
  rw [metF_str]
  by_cases h : x ∈ acc
  · rw [if_pos (by rw [List.any_eq_true]; exact ⟨x, h, by simp⟩), decide_eq_true h]; rfl
  · rw [if_neg (fun hc => by
      rw [List.any_eq_true] at hc
      obtain ⟨z, hz, e⟩ := hc
      exact h (strOf_inj (ha z hz) hx (by simpa using e) ▸ hz)), decide_eq_false h]; rfl
theorem metF_same (acc : List (List Int)) (x : List Int) : metF (acc ++ [x]) (.string (strOfNums x)) = some (.bool true) := by
  rw [metF_str, if_pos (by rw [List.any_eq_true]; exact ⟨x, by simp, by simp⟩)]
theorem metF_other (acc : List (List Int)) (x : List Int) (v : Value) (h : v ≠ .string (strOfNums x)) : metF (acc ++ [x]) v = metF acc v := by
  cases v with
  | string s =>
    have hne : ((strOfNums x).data.toList == s.data.toList) = false := by
      rw [beq_eq_false_iff_ne]
      intro e
      apply h
      congr 1
      apply ByteArray.ext
      exact (Array.toList_inj.1 e).symm
    rw [metF_str, metF_str, List.any_append]
    simp only [List.any_cons, List.any_nil, hne, Bool.or_false]
  | _ => rfl
/-- the rows among cells, each in memory made behind G and none in block o -/
def RowsAt (w : World) (G : Nat) (o : Option Nat) (cs : List Value) (Zs : List (List Int)) : Prop :=
  cs.length = Zs.length ∧ ∀ i, i < Zs.length → ∃ A C, cs[i]? = some (.slice A (Zs.getD i []).length C) ∧ RowOf w (.slice A (Zs.getD i []).length C) A C (Zs.getD i []) ∧ ∀ q, A = some q → G ≤ q.block ∧ o ≠ some q.block ∧ q.block < w.heap.size
theorem RowOf.keep {X : Nat → Prop} {w w' : World} {v : Value} {A : Option Addr} {C : Nat} {Z : List Int} (h : RowOf w v A C Z) (hk : Keep X w w') (hn : ∀ q, A = some q → ¬ X q.block) : RowOf w' v A C Z :=
  ⟨h.form, bytes_keep h.bytes hk (fun _ q hq => hn q hq), h.len, h.cap, h.most, h.none, h.range, fun q hq h0 => Nat.lt_of_lt_of_le (h.there q hq h0) hk.size⟩
theorem RowsAt.nil (w : World) (G : Nat) (o : Option Nat) : RowsAt w G o [] [] := ⟨rfl, fun i hi => by simp at hi⟩
theorem RowsAt.keep {X : Nat → Prop} {w w' : World} {G : Nat} {o : Option Nat} {cs : List Value} {Zs : List (List Int)} (h : RowsAt w G o cs Zs) (hk : Keep X w w') (hn : ∀ g, X g → o = some g ∨ g < G) : RowsAt w' G o cs Zs :=
  ⟨h.1, fun i hi => by
    obtain ⟨A, C, h1, h2, h3⟩ := h.2 i hi
    refine ⟨A, C, h1, h2.keep hk (fun q hq hX => ?_), fun q hq => ⟨(h3 q hq).1, (h3 q hq).2.1, Nat.lt_of_lt_of_le (h3 q hq).2.2 hk.size⟩⟩
    rcases hn _ hX with h | h
    · exact (h3 q hq).2.1 h
    · have := (h3 q hq).1; omega⟩
theorem RowsAt.moved {w : World} {G : Nat} {o o' : Option Nat} {cs : List Value} {Zs : List (List Int)} (h : RowsAt w G o cs Zs) (ho : o' = o ∨ ∃ g, o' = some g ∧ w.heap.size ≤ g) : RowsAt w G o' cs Zs :=
  ⟨h.1, fun i hi => by
    obtain ⟨A, C, h1, h2, h3⟩ := h.2 i hi
    refine ⟨A, C, h1, h2, fun q hq => ⟨(h3 q hq).1, ?_, (h3 q hq).2.2⟩⟩
    rcases ho with rfl | ⟨g, rfl, hg⟩
    · exact (h3 q hq).2.1
    · intro e; cases e; have := (h3 q hq).2.2; omega⟩
theorem RowsAt.grow {w w' : World} {G : Nat} {o o' : Option Nat} {cs : List Value} {Zs : List (List Int)} (h : RowsAt w G o cs Zs) (hk : Keep (fun k => o = some k) w w') (ho : o' = o ∨ ∃ g, o' = some g ∧ w.heap.size ≤ g) : RowsAt w' G o' cs Zs :=
  ⟨h.1, fun i hi => by
    obtain ⟨A, C, h1, h2, h3⟩ := (h.moved ho).2 i hi
    obtain ⟨A', C', h1', _, h3'⟩ := h.2 i hi
    rw [h1] at h1'
    cases h1'
    exact ⟨A, C, h1, h2.keep hk (fun q hq hX => (h3' q hq).2.1 hX), fun q hq => ⟨(h3 q hq).1, (h3 q hq).2.1, Nat.lt_of_lt_of_le (h3 q hq).2.2 hk.size⟩⟩⟩
theorem RowsAt.snoc {w : World} {G : Nat} {o : Option Nat} {cs : List Value} {Zs : List (List Int)} (h : RowsAt w G o cs Zs) {A : Option Addr} {C : Nat} {Z : List Int} (hR : RowOf w (.slice A Z.length C) A C Z) (hq : ∀ q, A = some q → G ≤ q.block ∧ o ≠ some q.block ∧ q.block < w.heap.size) :
    RowsAt w G o (cs ++ [.slice A Z.length C]) (Zs ++ [Z]) :=
  ⟨by rw [List.length_append, List.length_append, h.1]; rfl, fun i hi => by
    rw [List.length_append] at hi
    rcases Nat.lt_or_ge i Zs.length with hlt | hge
    · obtain ⟨A', C', h1, h2, h3⟩ := h.2 i hlt
      have e : (Zs ++ [Z]).getD i [] = Zs.getD i [] := by rw [List.getD_eq_getElem?_getD, List.getD_eq_getElem?_getD, List.getElem?_append_left hlt]
      rw [e]
      exact ⟨A', C', by rw [List.getElem?_append_left (by rw [h.1]; exact hlt)]; exact h1, h2, h3⟩
    · obtain rfl : i = Zs.length := by simp at hi; omega
      have e : (Zs ++ [Z]).getD Zs.length [] = Z := by simp [List.getD_eq_getElem?_getD]
      rw [e]
      exact ⟨A, C, by rw [← h.1]; simp, hR, hq⟩⟩
/-- a list of rows in memory of its own -/
def ListOf (w : World) (G : Nat) (v : Value) (Zs : List (List Int)) : Prop :=
  ∃ cs o, RowV w 26 1 v Zs.length cs o ∧ (∀ g, o = some g → G ≤ g) ∧ RowsAt w G o cs Zs
/-- it is read as rows that came in are -/
theorem ListOf.rows {w : World} {G : Nat} {v : Value} {Zs : List (List Int)} (h : ListOf w G v Zs) : ∃ q c A C, v = .slice q Zs.length c ∧ Zs.length ≤ c ∧ c ≤ 9223372036854775807 ∧ RowsIn w q Zs.length A C (fun i => Zs.getD i []) := by
  obtain ⟨cs, o, hv, ho, hr⟩ := h
  obtain ⟨q, c, rfl, hle, hcm, _⟩ := hv.form
  have hch : ∀ i, i < Zs.length → ∃ y : Option Addr × Nat, cs[i]? = some (.slice y.1 (Zs.getD i []).length y.2) ∧ RowOf w (.slice y.1 (Zs.getD i []).length y.2) y.1 y.2 (Zs.getD i []) := fun i hi => by
    obtain ⟨A, C, h1, h2, _⟩ := hr.2 i hi
    exact ⟨(A, C), h1, h2⟩
  obtain ⟨y, hy⟩ := Go.Deep.choose_lt hch
  refine ⟨q, c, fun i => (y i).1, fun i => (y i).2, rfl, hle, by unfold maxLen at hcm; omega, fun i hi => ?_⟩
  obtain ⟨g, cap, _, e, _, _, _, hc, _⟩ := hv.mem (by omega)
  injection e with e1
  obtain ⟨h1, h2⟩ := hy i hi
  exact ⟨g, 0, e1, by rw [Nat.zero_add, hc i (by omega)]; exact h1, h2⟩
theorem zeroBool (w : World) : (zeroValue 4).run Try.prog w = .ok (.bool false) w := by kernel_rfl
theorem rowinfo : (Try.prog.info? 26).map (fun i => (i.zero, i.size, i.bytes)) = some (some (.slice none 0 0), 1, 24) := by kernel_rfl
theorem rowOf_clone {w : World} {p : Option Addr} {c : Nat} {xs : List Int} {o : Option Nat} (h : Row w 5 (.slice p xs.length c) xs o) (hl : xs.length ≤ 140737488351232) (hr : ∀ y ∈ xs, 0 ≤ y ∧ y ≤ 255) : RowOf w (.slice p xs.length c) p c xs ∧ ∀ q, p = some q → o = some q.block := by
  obtain ⟨p', c', e, hy, hle, hcm, hcase⟩ := h.form
  cases e
  refine ⟨⟨rfl, hy, hl, hle, by unfold maxLen at hcm; omega, fun hp => ?_, hr, fun q hq h0 => ?_⟩, fun q hq => ?_⟩
  · rcases hcase with ⟨_, _, h0, _⟩ | ⟨g, _, h0, _⟩
    · exact h0
    · rw [h0] at hp; cases hp
  · rcases hcase with ⟨h0', _⟩ | ⟨g, hg, h0', hlt⟩
    · rw [h0'] at hq; cases hq
    · rw [h0'] at hq; cases hq; exact hlt
  · rcases hcase with ⟨h0', _⟩ | ⟨g, hg, h0', hlt⟩
    · rw [h0'] at hq; cases hq
    · rw [h0'] at hq; cases hq; exact hg
set_option maxHeartbeats 3200000 in
theorem ponce (a0 : Option Addr) (len cap : Nat) (A : Nat → Option Addr) (C : Nat → Nat) (Z : Nat → List Int) (w : World) (hR : RowsIn w a0 len A C Z) (hl : len ≤ 5000000000000) :
    Calls Try.prog 31 #[.slice a0 len cap] w fun e w' => (∃ v, e = .returned v ∧ ListOf w' w.heap.size v (unlikeN Z len)) ∧ Below w.heap.size w w' := by
  obtain ⟨i0, hi, hz0, hz1, hz2⟩ := info_parts rowinfo
  have HI := Lib.hid (And.intro hi (And.intro hz0 (And.intro hz1 hz2)))
  clear hi hz0 hz1 hz2
  have HR := Lib.hid hR
  have M0 := Lib.hid (KMap.made w Try.prog 9)
  have K0 := Lib.hid ((Below.refl w.heap.size w).alloc (Nat.le_refl _) (.map #[] 0))
  clear hR
  go_enter Try.func31, Try.ntmps31
  go_wp2_with (refine wpl_makeMap rfl _ rfl ?_)
  generalize w.alloc (.map #[] 0) = W at *
  generalize hgw : w.heap.size = G at *
  go_loopg [4, 10] len (fun gh v i wx => ∃ (k n : Nat) (cs : List Value) (o : Option Nat), k ≤ len ∧ i = .int .i64 (k : Int) ∧ gh = len - k ∧ Hid (n ≤ k ∧ RowV wx 26 1 v (unlikeN Z k).length cs o ∧ (∀ g, o = some g → G < g) ∧ RowsAt wx (G + 1) o cs (unlikeN Z k) ∧ KMap Try.prog 9 wx G (metF (unlikeN Z k)) n ∧ Below G w wx))
  case atStart => exact ⟨0, 0, [], none, Nat.zero_le _, rfl, rfl, Nat.le_refl _, RowV.nil _ _ _, fun g hg => (by cases hg), RowsAt.nil _ _ _, by show KMap Try.prog 9 W G (metF []) 0; rw [metF_nil]; exact M0.out, K0.out⟩
  case round =>
    obtain ⟨k, n, cs, o, hk, rfl, hg, HK⟩ := hrel
    have HG := Lib.hid hg
    clear hg
    by_cases hlt : k < len
    · obtain ⟨b, off, rfl, hc, hrow⟩ := (HR.out.below (by rw [hgw]; exact HK.out.2.2.2.2.2)) k hlt
      have hacc : ∀ x ∈ unlikeN Z k, ∀ y ∈ x, 0 ≤ y ∧ y ≤ 255 := fun x hx => by
        obtain ⟨i, hi, rfl⟩ := unlikeN_mem hx
        obtain ⟨_, _, _, _, h⟩ := HR.out i (by omega)
        exact h.range
      have HACC := Lib.hid hacc
      have HROW := Lib.hid hrow
      have hskip := @unlikeN_skip Z k
      have hmore := @unlikeN_more Z k
      have HSM := Lib.hid (And.intro hskip hmore)
      clear hacc hskip hmore
      obtain ⟨z, hz⟩ : ∃ z, z = (Z k).length := ⟨_, rfl⟩
      rw [← hz] at hc
      have HZ := Lib.hid hz
      clear hz
      by_cases hz0 : z = 0
      · subst hz0
        have hsk := HSM.out.1 (.inl (List.eq_nil_of_length_eq_zero HZ.out.symm))
        have HSK := Lib.hid hsk
        clear hsk hrow
        go_wp2
        go_roundg (len - (k + 1))
        case measure => rw [HG.out]; omega
        case rel => exact ⟨k + 1, n, cs, o, hlt, rfl, rfl, by have := HK.out.1; omega, by rw [HSK.out]; exact HK.out.2.1, HK.out.2.2.1, by rw [HSK.out]; exact HK.out.2.2.2.1, by rw [HSK.out]; exact HK.out.2.2.2.2.1, HK.out.2.2.2.2.2⟩
      · have z1 : (0 : Int) < (z : Int) := by omega
        have z2 : decide ((0 : Int) < (z : Int)) = true := decide_eq_true z1
        obtain ⟨pb, po, hA, hcl⟩ := hrow.bytes.at (by rw [← HZ.out]; omega)
        rw [← HZ.out] at hcl
        have hcv := run_convert_bytes_arg (P := Try.prog) wr 26 5 Try.underlying26 Try.underlying5 pb po z (C k) (Z k) HZ.out.symm hcl 9 Try.underlying9
        have hkey : keyOf Try.prog 9 (.string (strOfNums (Z k))) = some (.string (strOfNums (Z k)).data.toList) := keyOf_string Try.underlying9 _ (by rw [strOfNums_size]; have := hrow.len; unfold maxLen; omega)
        have hlk := HK.out.2.2.2.2.1.look (string_keyed Try.underlying9) Try.underlying50 (zeroBool wr) hkey
        rw [metF_look HACC.out hrow.range] at hlk
        rw [hA] at hc
        have HA := Lib.hid hA
        have HKEY := Lib.hid hkey
        clear hrow hcl hA hkey
        by_cases hin : Z k ∈ unlikeN Z k
        · have hsk := HSM.out.1 (.inr hin)
          have HSK := Lib.hid hsk
          rw [decide_eq_true hin] at hlk
          clear hsk hin
          generalize strOfNums (Z k) = S at *
          go_wp2
          go_roundg (len - (k + 1))
          case measure => rw [HG.out]; omega
          case rel => exact ⟨k + 1, n, cs, o, hlt, rfl, rfl, by have := HK.out.1; omega, by rw [HSK.out]; exact HK.out.2.1, HK.out.2.2.1, by rw [HSK.out]; exact HK.out.2.2.2.1, by rw [HSK.out]; exact HK.out.2.2.2.2.1, HK.out.2.2.2.2.2⟩
        · have hmr := HSM.out.2 (fun h => by
            rcases h with h | h
            · have := HZ.out; rw [h] at this; exact hz0 this
            · exact hin h)
          have HMR := Lib.hid hmr
          rw [decide_eq_false hin] at hlk
          clear hmr hin
          generalize hS : strOfNums (Z k) = S at *
          have HS := Lib.hid hS
          clear hS
          have hkey := HKEY.out
          have hf1 : metF (unlikeN Z (k + 1)) (.string S) = some (.bool true) := by rw [HMR.out, ← HS.out]; exact metF_same _ _
          have hf2 : ∀ y, y ≠ .string S → metF (unlikeN Z (k + 1)) y = metF (unlikeN Z k) y := fun y hy => by rw [HMR.out]; exact metF_other _ _ y (by rw [HS.out]; exact hy)
          obtain ⟨w3, hrunS, m3, k3⟩ := HK.out.2.2.2.2.1.store (string_keyed Try.underlying9) Try.underlying50 (by have := HK.out.1; unfold maxLen; omega) hkey (.bool true) (metF (unlikeN Z (k + 1))) hf1 hf2
          have K3 := HK.out.2.2.2.2.2.trans (k3.below (by rw [← hgw]; exact HK.out.2.2.2.2.2.size) (fun g hg => by rw [hg]; exact Nat.le_refl _))
          have M3 := Lib.hid m3
          have hrow3 := (HR.out.below (by rw [hgw]; exact K3)).row hlt
          have PC := bclone (A k) (C k) (Z k) w3 hrow3.bytes (by have := hrow3.len; omega) hrow3.none hrow3.cap
          rw [HA.out, ← HZ.out] at PC
          replace PC := Lib.hid PC
          have rv3 := HK.out.2.1.keep k3 (fun g hg e => by have := HK.out.2.2.1 g hg; omega)
          have ra3 := HK.out.2.2.2.1.keep k3 (fun g hg => .inr (by omega))
          have H3 := Lib.hid (And.intro K3 (And.intro rv3 (And.intro ra3 (And.intro hrow3.len hrow3.range))))
          clear hkey hf1 hf2 m3 k3 K3 hrow3 rv3 ra3
          have hn2 : (if (metF (unlikeN Z k) (.string S)).isSome then n else n + 1) ≤ k + 1 := by have := HK.out.1; split <;> omega
          generalize (if (metF (unlikeN Z k) (.string S)).isSome then n else n + 1) = n2 at *
          have HN2 := Lib.hid hn2
          clear hn2
          go_wp2_with fail
          refine PC.out.mono ?_
          rintro e w4 ⟨p4, c4, o4, rfl, R4, ho4, hb4⟩
          rw [HZ.out] at R4 ⊢
          obtain ⟨r4, hp4⟩ := rowOf_clone R4 H3.out.2.2.2.1 H3.out.2.2.2.2
          have hG3 : G ≤ w3.heap.size := by rw [← hgw]; exact H3.out.1.size
          have K4 := H3.out.1.trans (hb4.mono hG3)
          have kb4 := Keep.of_below (X := fun _ => False) hb4
          have rv4 := H3.out.2.1.keep kb4 (fun _ _ h => h)
          have ra4 := H3.out.2.2.1.keep kb4 (fun g hg => hg.elim)
          have m4 := M3.out.keep kb4 (fun h => h)
          have hGb : ∀ g, o4 = some g → w3.heap.size ≤ g := ho4
          have hG3' : G < w3.heap.size := M3.out.lt
          have ho3 : ∀ g, o = some g → g < w3.heap.size := fun g hg => H3.out.2.1.lt g hg
          have hnew : ∀ q, p4 = some q → G + 1 ≤ q.block ∧ o ≠ some q.block ∧ q.block < w4.heap.size := fun q hq => by
            have h1 := hp4 q hq
            have h2 := hGb _ h1
            exact ⟨by omega, fun e => by have := ho3 _ e; omega, R4.lt _ h1⟩
          have ra5 := ra4.snoc r4 hnew
          obtain ⟨g5, c5, w5, run5, rv5, ho5, hk5⟩ := rowV_append1 (P := Try.prog) 24 24 i0 (.slice none 0 0) Try.underlying24 HI.out.1 HI.out.2.1 HI.out.2.2.1 HI.out.2.2.2 rfl rv4 (.slice p4 (Z k).length c4) rfl (by have := unlikeN_len Z k; unfold maxLen; omega) (by have := unlikeN_len Z k; omega)
          have hmv : some g5 = o ∨ ∃ g, some g5 = some g ∧ w4.heap.size ≤ g := by
            rcases ho5 with h | h
            · exact .inl h.symm
            · exact .inr ⟨g5, rfl, h⟩
          have ra6 := ra5.grow hk5 hmv
          have m5 := m4.keep hk5 (fun e => by have := HK.out.2.2.1 _ e; omega)
          have K5 := K4.trans (hk5.below (by rw [← hgw]; exact K4.size) (fun g hg => by have := HK.out.2.2.1 _ hg; omega))
          have hg5 : ∀ g, some g5 = some g → G < g := fun g hg => by
            cases hg
            rcases ho5 with h | h
            · exact HK.out.2.2.1 _ h
            · have := hb4.size; omega
          have e5 : (unlikeN Z k ++ [Z k]).length = (unlikeN Z k).length + 1 := by simp
          have H5 := Lib.hid (And.intro rv5 (And.intro hg5 (And.intro ra6 (And.intro m5 (And.intro K5 e5)))))
          obtain ⟨p8, c8, rfl, _⟩ := HK.out.2.1.form
          clear R4 r4 hp4 hG3 K4 kb4 rv4 ra4 m4 hGb hG3' ho3 hnew ra5 rv5 ho5 hk5 hmv ra6 m5 K5 hg5 e5 ho4 hb4
          generalize (Z k).length = zk at *
          generalize (unlikeN Z k).length = un at *
          go_wp2_with (at_builtin; refine wpl_append rfl _ _ 24 rfl rfl rfl run5 ?_)
          go_roundg (len - (k + 1))
          case measure => rw [HG.out]; omega
          case rel => exact ⟨k + 1, n2, _, some g5, hlt, rfl, rfl, HN2.out, by rw [HMR.out, H5.out.2.2.2.2.2]; exact H5.out.1, H5.out.2.1, by rw [HMR.out]; exact H5.out.2.2.1, H5.out.2.2.2.1, H5.out.2.2.2.2.1⟩
    · obtain rfl : k = len := by omega
      have HF : Hid (ListOf wr G u4 (unlikeN Z k)) := Lib.hid ⟨cs, o, HK.out.2.1, fun g hg => Nat.le_of_lt (HK.out.2.2.1 g hg), HK.out.2.2.2.1.1, fun i hi => by
        obtain ⟨A', C', h1, h2, h3⟩ := HK.out.2.2.2.1.2 i hi
        exact ⟨A', C', h1, h2, fun q hq => ⟨by have := (h3 q hq).1; omega, (h3 q hq).2⟩⟩⟩
      go_wp2
      go_ret
      exact ⟨⟨_, rfl, by rw [hgw]; exact HF.out⟩, by rw [hgw]; exact HK.out.2.2.2.2.2⟩
end Go.Proofs.Ytppcccocnmhbgaa
end

section
/- The document's unlike: items that are not empty, each once. -/
namespace Go.Proofs.Ytppcccocnmhbgaa
open Go Go.RowKit Go.Maps Go.ChangeMaps
set_option linter.unusedSimpArgs false
set_option linter.unusedVariables false
set_option maxRecDepth 100000

theorem anyD_succ (l : List (List Int)) (x : List Int) (j : Nat) (hj : j < l.length) : decide (x ∈ l.take (j + 1)) = (decide (x ∈ l.take j) || decide (x = l.getD j [])) := by
  have e : l.take (j + 1) = l.take j ++ [l.getD j []] := by
    rw [List.take_add_one, List.getElem?_eq_getElem hj, List.getD_eq_getElem?_getD, List.getElem?_eq_getElem hj]; rfl
  rw [e, Bool.eq_iff_iff]
  simp only [decide_eq_true_eq, Bool.or_eq_true, List.mem_append, List.mem_singleton]
theorem unlikeN_ne {Z : Nat → List Int} : ∀ {k : Nat} {x : List Int}, x ∈ unlikeN Z k → 0 < x.length
  | k + 1, x, h => by
    by_cases hc : Z k = [] ∨ Z k ∈ unlikeN Z k
    · rw [unlikeN_skip hc] at h
      exact unlikeN_ne h
    · rw [unlikeN_more hc, List.mem_append] at h
      rcases h with h | h
      · exact unlikeN_ne h
      · have : x = Z k := by simpa using h
        rw [this]
        exact List.length_pos_iff.2 (fun e => hc (.inl e))
theorem getD_mem {l : List (List Int)} {j : Nat} (hj : j < l.length) : l.getD j [] ∈ l := by
  rw [List.getD_eq_getElem?_getD, List.getElem?_eq_getElem hj]; exact List.getElem_mem hj
set_option maxHeartbeats 3200000 in
theorem runlike (a0 : Option Addr) (len cap : Nat) (A : Nat → Option Addr) (C : Nat → Nat) (Z : Nat → List Int) (w : World) (hR : RowsIn w a0 len A C Z) (hl : len ≤ 5000000000000) :
    Calls Try.prog 38 #[.slice a0 len cap] w fun e w' => (∃ v, e = .returned v ∧ ListOf w' w.heap.size v (unlikeN Z len)) ∧ Below w.heap.size w w' := by
  obtain ⟨i0, hi, hz0, hz1, hz2⟩ := info_parts rowinfo
  have HI := Lib.hid (And.intro hi (And.intro hz0 (And.intro hz1 hz2)))
  obtain ⟨j0, hi8, hy0, hy1, hy2⟩ := info_parts u8info'
  have HJ := Lib.hid (And.intro hi8 (And.intro hy0 (And.intro hy1 hy2)))
  clear hi hz0 hz1 hz2 hi8 hy0 hy1 hy2
  have HR := Lib.hid hR
  clear hR
  go_enter Try.func38, Try.ntmps38
  go_wp2
  generalize hgw : w.heap.size = G at *
  go_loopg [3, 11] len (fun gh v i wx => ∃ (k : Nat) (cs : List Value) (o : Option Nat), k ≤ len ∧ i = .int .i64 (k : Int) ∧ gh = len - k ∧ Hid (RowV wx 26 1 v (unlikeN Z k).length cs o ∧ (∀ g, o = some g → G ≤ g) ∧ RowsAt wx G o cs (unlikeN Z k) ∧ Below G w wx))
  case atStart => exact ⟨0, [], none, Nat.zero_le _, rfl, rfl, RowV.nil _ _ _, fun g hg => (by cases hg), RowsAt.nil _ _ _, Below.refl _ _⟩
  case round =>
    obtain ⟨k, cs, o, hk, rfl, hg, HK⟩ := hrel
    have HG := Lib.hid hg
    clear hg
    by_cases hlt : k < len
    · obtain ⟨b, off, rfl, hc, hrow⟩ := (HR.out.below (by rw [hgw]; exact HK.out.2.2.2)) k hlt
      have hacc : ∀ x ∈ unlikeN Z k, ∀ y ∈ x, 0 ≤ y ∧ y ≤ 255 := fun x hx => by
        obtain ⟨i, hi, rfl⟩ := unlikeN_mem hx
        exact (HR.out.row (by omega)).range
      have HACC := Lib.hid hacc
      have HROW := Lib.hid hrow
      have hskip := @unlikeN_skip Z k
      have hmore := @unlikeN_more Z k
      have HSM := Lib.hid (And.intro hskip hmore)
      obtain ⟨qv, cv, AV, CV, rfl, hvle, hvc, hvr⟩ := (show ListOf wr G _ (unlikeN Z k) from ⟨cs, o, HK.out.1, HK.out.2.1, HK.out.2.2.1⟩).rows
      have HV := Lib.hid hvr
      clear hacc hskip hmore hvr
      obtain ⟨z, hz⟩ : ∃ z, z = (Z k).length := ⟨_, rfl⟩
      rw [← hz] at hc
      have HZ := Lib.hid hz
      clear hz hrow
      obtain ⟨u, hu⟩ : ∃ u, u = (unlikeN Z k).length := ⟨_, rfl⟩
      rw [← hu]
      have HU := Lib.hid hu
      have hu5 : u ≤ 5000000000000 := by have := unlikeN_len Z k; omega
      clear hu
      obtain ⟨e0, he0⟩ : ∃ e0 : Bool, e0 = decide (z = 0) := ⟨_, rfl⟩
      have he1 : ((z : Int) == 0) = e0 := by rw [he0, Bool.eq_iff_iff]; simp
      have HE0 := Lib.hid he0
      clear he0
      go_wp2
      go_loopg [6, 20] u (fun gh m i wx => ∃ j : Nat, j ≤ u ∧ m = .bool (e0 || decide (Z k ∈ (unlikeN Z k).take j)) ∧ i = .int .i64 (j : Int) ∧ gh = u - j ∧ wx = wr)
      case atStart => exact ⟨0, Nat.zero_le _, by simp, rfl, rfl, rfl⟩
      case round =>
        obtain ⟨j, hj, rfl, rfl, hg2, hwx⟩ := hrel
        have hwx' := hwx.symm
        subst hwx'
        have HG2 := Lib.hid hg2
        clear hg2
        by_cases hlt2 : j < u
        · obtain ⟨b2, off2, rfl, hc2, hrow2⟩ := HV.out j (by rw [← HU.out]; exact hlt2)
          have hany := anyD_succ (unlikeN Z k) (Z k) j (by rw [← HU.out]; exact hlt2)
          have HANY := Lib.hid hany
          clear hany
          cases hM : (e0 || decide (Z k ∈ (unlikeN Z k).take j)) with
          | true =>
            have hN : (e0 || decide (Z k ∈ (unlikeN Z k).take (j + 1))) = true := by rw [HANY.out, ← Bool.or_assoc, hM, Bool.true_or]
            have HN := Lib.hid hN
            clear hN hM
            go_wp2
            go_roundg (u - (j + 1))
            case measure => rw [HG2.out]; omega
            case rel => exact ⟨j + 1, hlt2, by rw [HN.out], rfl, rfl, rfl⟩
          | false =>
            have he : e0 = false := by cases e0 <;> simp_all
            have hz0 : 0 < z := by rw [HE0.out] at he; have := of_decide_eq_false he; omega
            have hmj := getD_mem (l := unlikeN Z k) (j := j) (by rw [← HU.out]; exact hlt2)
            obtain ⟨pb, po, hA, hcl⟩ := HROW.out.bytes.at (by rw [← HZ.out]; exact hz0)
            obtain ⟨pb2, po2, hA2, hcl2⟩ := hrow2.bytes.at (unlikeN_ne hmj)
            rw [← HZ.out] at hcl
            have hcv := run_convert_bytes_arg (P := Try.prog) wr 26 5 Try.underlying26 Try.underlying5 pb po z (C k) (Z k) HZ.out.symm hcl 9 Try.underlying9
            have hcv2 := run_convert_bytes_arg (P := Try.prog) wr 26 5 Try.underlying26 Try.underlying5 pb2 po2 _ (CV j) ((unlikeN Z k).getD j []) rfl hcl2 9 Try.underlying9
            have hN : (e0 || decide (Z k ∈ (unlikeN Z k).take (j + 1))) = decide (Z k = (unlikeN Z k).getD j []) := by rw [HANY.out, ← Bool.or_assoc, hM, Bool.false_or]
            have hinj : decide (Z k = (unlikeN Z k).getD j []) = decide ((strOfNums (Z k)).data.toList = (strOfNums ((unlikeN Z k).getD j [])).data.toList) := by
              rw [Bool.eq_iff_iff]
              simp only [decide_eq_true_eq]
              exact ⟨fun h => by rw [h], fun h => strOf_inj HROW.out.range hrow2.range h⟩
            rw [hinj] at hN
            have HN := Lib.hid hN
            rw [hA2] at hc2
            rw [← hA] at hcv
            clear hA
            clear hM hinj hN hmj hcl hcl2 hrow2 he
            generalize ((unlikeN Z k).getD j []).length = y at *
            generalize strOfNums ((unlikeN Z k).getD j []) = T at *
            generalize strOfNums (Z k) = S at *
            go_wp2
            go_roundg (u - (j + 1))
            case measure => rw [HG2.out]; omega
            case rel => exact ⟨j + 1, hlt2, by rw [HN.out, Lib.toList_data, Lib.toList_data]; congr 1; rw [Bool.eq_iff_iff]; simp, rfl, rfl, rfl⟩
        · obtain rfl : j = u := by omega
          have hM0 : (unlikeN Z k).take j = unlikeN Z k := List.take_of_length_le (by rw [← HU.out]; exact Nat.le_refl _)
          rw [hM0]
          clear hM0
          cases hM : (e0 || decide (Z k ∈ unlikeN Z k)) with
          | true =>
            have hsk := HSM.out.1 (by
              rw [Bool.or_eq_true] at hM
              rcases hM with h | h
              · rw [HE0.out] at h
                have := of_decide_eq_true h
                exact .inl (List.eq_nil_of_length_eq_zero (by rw [← HZ.out]; exact this))
              · exact .inr (of_decide_eq_true h))
            have HSK := Lib.hid hsk
            clear hsk hM
            go_wp2
            go_roundg (len - (k + 1))
            case measure => rw [HG.out]; omega
            case rel => exact ⟨k + 1, cs, o, hlt, rfl, rfl, by rw [HSK.out, HU.out]; exact HK.out.1, HK.out.2.1, by rw [HSK.out]; exact HK.out.2.2.1, HK.out.2.2.2⟩
          | false =>
            have hmr := HSM.out.2 (by
              rw [Bool.or_eq_false_iff] at hM
              rintro (h | h)
              · have := HE0.out
                rw [hM.1] at this
                have := of_decide_eq_false this.symm
                rw [HZ.out, h] at this
                exact this rfl
              · exact of_decide_eq_false hM.2 h)
            have HMR := Lib.hid hmr
            clear hmr hM
            have bn := Blk.new wr #[] 5
            have R0 : Row (wr.alloc (.cells #[] 5)) 5 (.slice (some ⟨wr.heap.size, 0, none⟩) 0 0) [] (some wr.heap.size) := .inr ⟨wr.heap.size, 0, #[], rfl, rfl, bn, Nat.le_refl _, Nat.le_refl _, (by decide), rfl⟩
            have ka := (Below.refl wr.heap.size wr).alloc (Nat.le_refl _) (.cells #[] 5)
            have hby := HROW.out.below ka
            obtain ⟨v4, w4, o4, run4, R4, ho4, hk4⟩ := row_appendL (P := Try.prog) 26 26 j0 (.int .u8 0) Try.underlying26 HJ.out.1 HJ.out.2.1 HJ.out.2.2.1 HJ.out.2.2.2 rfl R0 (p := A k) (c := C k) (ys := Z k) hby.bytes (by have := hby.len; simp; omega)
            rw [List.nil_append] at R4
            obtain ⟨p4, c4, rfl, _⟩ := R4.form
            obtain ⟨r4, hp4⟩ := rowOf_clone R4 HROW.out.len HROW.out.range
            have hb4 : Below wr.heap.size wr w4 := ka.trans (hk4.below ka.size (fun g hg => by cases hg; exact Nat.le_refl _))
            have hGw : G ≤ wr.heap.size := by rw [← hgw]; exact HK.out.2.2.2.size
            have hGb : ∀ g, o4 = some g → wr.heap.size ≤ g := fun g hg => by
              rcases ho4 with h | ⟨g', h, hg'⟩
              · rw [h] at hg; cases hg; exact Nat.le_refl _
              · rw [h] at hg; cases hg; have := ka.size; omega
            have kb4 := Keep.of_below (X := fun _ => False) hb4
            have rv4 := HK.out.1.keep kb4 (fun _ _ h => h)
            have ra4 := HK.out.2.2.1.keep kb4 (fun g hg => hg.elim)
            have ho3 : ∀ g, o = some g → g < wr.heap.size := fun g hg => HK.out.1.lt g hg
            have hnew : ∀ q, p4 = some q → G ≤ q.block ∧ o ≠ some q.block ∧ q.block < w4.heap.size := fun q hq => by
              have h1 := hp4 q hq
              have h2 := hGb _ h1
              exact ⟨by omega, fun e => by have := ho3 _ e; omega, R4.lt _ h1⟩
            have ra5 := ra4.snoc r4 hnew
            have mk5 := rowV_append1 (P := Try.prog) 24 24 i0 (.slice none 0 0) Try.underlying24 HI.out.1 HI.out.2.1 HI.out.2.2.1 HI.out.2.2.2 rfl rv4 (.slice p4 (Z k).length c4) rfl (by have := unlikeN_len Z k; unfold maxLen; omega) (by have := unlikeN_len Z k; omega)
            obtain ⟨g5, c5, w5, run5, rv5, ho5, hk5⟩ := mk5
            have hmv : some g5 = o ∨ ∃ g, some g5 = some g ∧ w4.heap.size ≤ g := by
              rcases ho5 with h | h
              · exact .inl h.symm
              · exact .inr ⟨g5, rfl, h⟩
            have ra6 := ra5.grow hk5 hmv
            have K4 := HK.out.2.2.2.trans (hb4.mono hGw)
            have K5 := K4.trans (hk5.below (by rw [← hgw]; exact K4.size) (fun g hg => HK.out.2.1 _ hg))
            have hg5 : ∀ g, some g5 = some g → G ≤ g := fun g hg => by
              cases hg
              rcases ho5 with h | h
              · exact HK.out.2.1 _ h
              · have := hb4.size; omega
            have e5 : (unlikeN Z k ++ [Z k]).length = (unlikeN Z k).length + 1 := by simp
            have H5 := Lib.hid (And.intro rv5 (And.intro hg5 (And.intro ra6 (And.intro K5 e5))))
            rw [← HZ.out] at run4 run5
            rw [← HU.out] at run5
            clear bn R0 ka hby R4 r4 hp4 ho4 hk4 hb4 hGw hGb kb4 rv4 ra4 ho3 hnew ra5 rv5 ho5 hk5 hmv ra6 K4 K5 hg5 e5
            go_wp2_with (at_builtin; first | (refine wpl_append rfl _ _ 26 rfl rfl rfl run4 ?_) | (refine wpl_append rfl _ _ 24 rfl rfl rfl run5 ?_))
            go_roundg (len - (k + 1))
            case measure => rw [HG.out]; omega
            case rel => exact ⟨k + 1, _, some g5, hlt, rfl, rfl, by rw [HMR.out, H5.out.2.2.2.2, ← HU.out]; have := H5.out.1; rw [← HU.out] at this; exact this, H5.out.2.1, by rw [HMR.out]; exact H5.out.2.2.1, H5.out.2.2.2.1⟩
    · obtain rfl : k = len := by omega
      have HF : Hid (ListOf wr G u3 (unlikeN Z k)) := Lib.hid ⟨cs, o, HK.out.1, HK.out.2.1, HK.out.2.2.1⟩
      go_wp2
      go_ret
      exact ⟨⟨_, rfl, by rw [hgw]; exact HF.out⟩, by rw [hgw]; exact HK.out.2.2.2⟩
end Go.Proofs.Ytppcccocnmhbgaa
end
