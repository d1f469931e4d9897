/- Maps with keys of any kind that has a law, told by a function on the keys' values. No program in sight. -/
import Derived.Test.YtppcccocnmhbgaaIMap
namespace Go.Proofs.Ytppcccocnmhbgaa
open Go Go.RowKit Go.Maps Go.ChangeMaps

/-- block b is a map with keys of type k, of n entries; f tells what is at a key -/
def KMap (P : Program) (k : TypeId) (w : World) (b : Nat) (f : Value → Option Value) (n : Nat) : Prop :=
  ∃ D : DataW Value, w.ownsMap P k RV b n D ∧ Maps.size D = n ∧ ∀ x l, keyOf P k x = some l → Maps.has D l = (f x).isSome ∧ ∀ v, f x = some v → ∀ z, D.atKey l z = .held v
section
variable {P : Program} {k : TypeId} {w w' : World} {b n : Nat} {f : Value → Option Value} {D : DataW Value}
theorem KMap.made (w : World) (P : Program) (k : TypeId) : KMap P k (w.alloc (.map #[] 0)) w.heap.size (fun _ => none) 0 :=
  ⟨_, World.ownsMap_made w P k RV, rfl, fun x l _ => ⟨rfl, fun v hv => by cases hv⟩⟩
theorem KMap.lt (h : KMap P k w b f n) : b < w.heap.size := by obtain ⟨D, h1, _⟩ := h; exact h1.lt
theorem KMap.keep {X : Nat → Prop} (h : KMap P k w b f n) (hk : Keep X w w') (hn : ¬ X b) : KMap P k w' b f n := by
  obtain ⟨D, h1, h2⟩ := h
  have hl := h1.lt
  obtain ⟨es, clock, hb, r⟩ := h1
  exact ⟨D, ⟨es, clock, (hk.block b hl hn).trans hb, r⟩, h2⟩
theorem KMap.drew (h : KMap P k w b f n) : KMap P k w.drew b f n := h
theorem KMap.at (h : KMap P k w b f n) {x : Value} {l : Lit} (hx : keyOf P k x = some l) : ∃ D : DataW Value, w.ownsMap P k RV b n D ∧ (∀ z, D.atKey l (.held z) = .held ((f x).getD z)) ∧ Maps.has D l = (f x).isSome := by
  obtain ⟨D, h1, h2, h3⟩ := h
  obtain ⟨e1, e2⟩ := h3 x l hx
  refine ⟨D, h1, fun z => ?_, e1⟩
  cases hf : f x with
  | none =>
    rw [hf] at e1
    exact atKey_of_not_has e1 _
  | some v => exact e2 v hf _
/-- 'm[k]' -/
theorem KMap.look (h : KMap P k w b f n) {t e : TypeId} (K : Keyed P k) (ht : P.underlying t = some (.map k e)) {z : Value} (hz : (zeroValue e).run P w = .ok z w) {x : Value} {l : Lit} (hx : keyOf P k x = some l) :
    (Instr.lookup t (.map (some b)) x false).run P w = .ok ((f x).getD z) w := by
  obtain ⟨D, h1, h2, _⟩ := h.at hx
  obtain ⟨v, ps, hrun, hv⟩ := h1.lookup K ht hz (R := RV) (zd := .held z) (zp := []) rfl hx
  have e1 := RV_inv hv
  rw [h2 z] at e1
  rw [hrun]
  injection e1 with e1
  rw [e1]
/-- 'v, ok := m[k]' -/
theorem KMap.lookOk (h : KMap P k w b f n) {t e : TypeId} (K : Keyed P k) (ht : P.underlying t = some (.map k e)) {z : Value} (hz : (zeroValue e).run P w = .ok z w) {x : Value} {l : Lit} (hx : keyOf P k x = some l) :
    (Instr.lookup t (.map (some b)) x true).run P w = .ok (.tuple #[(f x).getD z, .bool (f x).isSome]) w := by
  obtain ⟨D, h1, h2, h3⟩ := h.at hx
  obtain ⟨v, ps, hrun, hv⟩ := h1.look_ok K ht hz (R := RV) (zd := .held z) (zp := []) rfl hx
  have e1 := RV_inv hv
  rw [h2 z] at e1
  rw [hrun, h3]
  injection e1 with e1
  rw [e1]
/-- 'len(m)' -/
theorem KMap.len (h : KMap P k w b f n) {t e : TypeId} (ht : P.underlying t = some (.map k e)) (ty : TypeId) : (Builtin.len_ #[t] ty #[.map (some b)]).run P w = .ok (.int .i64 (n : Int)) w := by
  obtain ⟨D, h1, h2, _⟩ := h
  rw [h1.len ht ty, h2]
/-- 'm[k] = v' -/
theorem KMap.store (h : KMap P k w b f n) {t e : TypeId} (K : Keyed P k) (ht : P.underlying t = some (.map k e)) (hn : n < maxLen) {x : Value} {l : Lit} (hx : keyOf P k x = some l) (v : Value) (f' : Value → Option Value) (hs : f' x = some v) (ho : ∀ y, y ≠ x → f' y = f y) :
    ∃ w', (Instr.mapUpdate t (.map (some b)) x v).run P w = .ok () w' ∧ KMap P k w' b f' (if (f x).isSome then n else n + 1) ∧ Keep (fun k => k = b) w w' := by
  obtain ⟨D, h1, h2, h3⟩ := h
  obtain ⟨w1, hrun, r1, r2⟩ := h1.store K ht hn (R := RV) (d := .held v) (ps := []) hx rfl
  have hsz := size_put (k := l) (h1.tidy K) (.held v : DataW Value)
  rw [(h3 x l hx).1, h2] at hsz
  refine ⟨w1, hrun, ⟨D.put l (.held v), ?_, hsz, fun y ly hy => ?_⟩, Keep.of_turned r2⟩
  · have := ownsMap_tight r1
    rw [hsz] at this
    exact this
  · by_cases hyx : y = x
    · subst hyx
      obtain rfl : ly = l := Option.some.inj (hy.symm.trans hx)
      rw [hs]
      refine ⟨has_put_same h1.isMap (K.key hx) _, fun v' hv' z => ?_⟩
      cases hv'
      exact atKey_put_same h1.isMap (K.key hx) _ _
    · rw [ho y hyx]
      have hll : ly ≠ l := fun e => hyx (K.inj hy (e ▸ hx))
      refine ⟨(has_put_other hll _).trans (h3 y ly hy).1, fun v' hv' z => (atKey_put_other hll _ _).trans ((h3 y ly hy).2 v' hv' z)⟩
/-- 'delete(m, k)' -/
theorem KMap.drop (h : KMap P k w b f n) {t e : TypeId} (K : Keyed P k) (ht : P.underlying t = some (.map k e)) {x : Value} {l : Lit} (hx : keyOf P k x = some l) (ty : TypeId) (f' : Value → Option Value) (hs : f' x = none) (ho : ∀ y, y ≠ x → f' y = f y) :
    ∃ w', (Builtin.delete_ #[t, k] ty #[.map (some b), x]).run P w = .ok (.tuple #[]) w' ∧ KMap P k w' b f' (if (f x).isSome then n - 1 else n) ∧ Keep (fun k => k = b) w w' := by
  obtain ⟨D, h1, h2, h3⟩ := h
  obtain ⟨w1, hrun, r1, r2⟩ := h1.drop K ht hx ty
  have hsz := size_del (k := l) (h1.tidy K)
  rw [(h3 x l hx).1, h2] at hsz
  have hsz2 : Maps.size (D.del l) = if (f x).isSome then n - 1 else n := by
    cases hf : (f x).isSome <;> rw [hf] at hsz <;> simp at hsz ⊢ <;> omega
  refine ⟨w1, hrun, ⟨D.del l, ?_, hsz2, fun y ly hy => ?_⟩, Keep.of_turned r2⟩
  · have := ownsMap_tight r1
    rw [hsz2] at this
    exact this
  · by_cases hyx : y = x
    · subst hyx
      obtain rfl : ly = l := Option.some.inj (hy.symm.trans hx)
      rw [hs]
      exact ⟨has_del_same, fun v' hv' => by cases hv'⟩
    · rw [ho y hyx]
      have hll : ly ≠ l := fun e => hyx (K.inj hy (e ▸ hx))
      refine ⟨(has_del_other hll).trans (h3 y ly hy).1, fun v' hv' z => (atKey_del_other hll _).trans ((h3 y ly hy).2 v' hv' z)⟩
end
theorem keyOf_string {P : Program} {k : TypeId} (hk : P.underlying k = some .string) (s : ByteArray) (hs : s.size ≤ maxLen) : keyOf P k (.string s) = some (.string s.data.toList) := by
  simp [keyOf, hk, mapKey, hs]
end Go.Proofs.Ytppcccocnmhbgaa
