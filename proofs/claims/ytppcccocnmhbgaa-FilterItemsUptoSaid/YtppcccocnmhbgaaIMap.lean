/- Maps keyed by int, told by a function. No program in sight. -/
import Derived.Test.YtppcccocnmhbgaaRowV
import Derived.Maps.OwnSet
namespace Go.Proofs.Ytppcccocnmhbgaa
open Go Go.RowKit Go.Maps Go.ChangeMaps

def RV (v : Value) : Option (DataW Value × List MemPlace) := some (.held v, [])
/-- block b is a map keyed by int of n entries; f tells what is at a key -/
def IMap (P : Program) (k : TypeId) (w : World) (b : Nat) (f : Int → Option Value) (n : Nat) : Prop :=
  ∃ D : DataW Value, w.ownsMap P k RV b n D ∧ Maps.size D = n ∧ ∀ x, (Lit.int .i64 x).wf = true → Maps.has D (.int .i64 x) = (f x).isSome ∧ ∀ v, f x = some v → ∀ z, D.atKey (.int .i64 x) z = .held v
section
variable {P : Program} {k : TypeId} {w w' : World} {b n : Nat} {f : Int → Option Value} {D : DataW Value}
theorem ownsMap_tight (h : w.ownsMap P k RV b n D) : w.ownsMap P k RV b (Maps.size D) D := by
  obtain ⟨es, clock, hb, F, hs, rfl⟩ := h
  exact ⟨es, clock, hb, F, by simp [Maps.size, length_sorted], rfl⟩
theorem IMap.made (w : World) (P : Program) (k : TypeId) : IMap P k (w.alloc (.map #[] 0)) w.heap.size (fun _ => none) 0 :=
  ⟨_, World.ownsMap_made w P k RV, rfl, fun x _ => ⟨rfl, fun v hv => by cases hv⟩⟩
theorem IMap.lt (h : IMap P k w b f n) : b < w.heap.size := by obtain ⟨D, h1, _⟩ := h; exact h1.lt
theorem IMap.keep {X : Nat → Prop} (h : IMap P k w b f n) (hk : Keep X w w') (hn : ¬ X b) : IMap P k w' b f n := by
  obtain ⟨D, h1, h2⟩ := h
  have hl := h1.lt
  obtain ⟨es, clock, hb, r⟩ := h1
  exact ⟨D, ⟨es, clock, (hk.block b hl hn).trans hb, r⟩, h2⟩
theorem IMap.drew (h : IMap P k w b f n) : IMap P k w.drew b f n := h
theorem RV_inv {v : Value} {d : DataW Value} {ps : List MemPlace} (h : RV v = some (d, ps)) : d = .held v := by
  simp [RV] at h; exact h.1.symm
theorem keyLit (hk : P.underlying k = some (.int .i64)) {x : Int} (hx : (Lit.int .i64 x).wf = true) : keyOf P k (.int .i64 x) = some (.int .i64 x) := keyOf_int_mk hk hx
theorem IMap.at (h : IMap P k w b f n) {x : Int} (hx : (Lit.int .i64 x).wf = true) : ∃ D : DataW Value, w.ownsMap P k RV b n D ∧ (∀ z, D.atKey (.int .i64 x) (.held z) = .held ((f x).getD z)) ∧ Maps.has D (.int .i64 x) = (f x).isSome := by
  obtain ⟨D, h1, h2, h3⟩ := h
  obtain ⟨e1, e2⟩ := h3 x hx
  refine ⟨D, h1, fun z => ?_, e1⟩
  cases hf : f x with
  | none =>
    rw [hf] at e1
    exact atKey_of_not_has e1 _
  | some v => exact e2 v hf _
/-- 'm[k]' -/
theorem IMap.look (h : IMap P k w b f n) {t e : TypeId} (hk : P.underlying k = some (.int .i64)) (ht : P.underlying t = some (.map k e)) {z : Value} (hz : (zeroValue e).run P w = .ok z w) {x : Int} (hx : (Lit.int .i64 x).wf = true) :
    (Instr.lookup t (.map (some b)) (.int .i64 x) false).run P w = .ok ((f x).getD z) w := by
  obtain ⟨D, h1, h2, _⟩ := h.at hx
  obtain ⟨v, ps, hrun, hv⟩ := h1.lookup (int_keyed hk) ht hz (R := RV) (zd := .held z) (zp := []) rfl (keyLit hk hx)
  have e1 := RV_inv hv
  rw [h2 z] at e1
  rw [hrun]
  injection e1 with e1
  rw [e1]
/-- 'v, ok := m[k]' -/
theorem IMap.lookOk (h : IMap P k w b f n) {t e : TypeId} (hk : P.underlying k = some (.int .i64)) (ht : P.underlying t = some (.map k e)) {z : Value} (hz : (zeroValue e).run P w = .ok z w) {x : Int} (hx : (Lit.int .i64 x).wf = true) :
    (Instr.lookup t (.map (some b)) (.int .i64 x) true).run P w = .ok (.tuple #[(f x).getD z, .bool (f x).isSome]) w := by
  obtain ⟨D, h1, h2, h3⟩ := h.at hx
  obtain ⟨v, ps, hrun, hv⟩ := h1.look_ok (int_keyed hk) ht hz (R := RV) (zd := .held z) (zp := []) rfl (keyLit hk hx)
  have e1 := RV_inv hv
  rw [h2 z] at e1
  rw [hrun, h3]
  injection e1 with e1
  rw [e1]
/-- 'len(m)' -/
theorem IMap.len (h : IMap P k w b f n) {t e : TypeId} (ht : P.underlying t = some (.map k e)) (ty : TypeId) : (Builtin.len_ #[t] ty #[.map (some b)]).run P w = .ok (.int .i64 (n : Int)) w := by
  obtain ⟨D, h1, h2, _⟩ := h
  rw [h1.len ht ty, h2]
theorem Keep.of_turned (h : w.mapTurned w' b) : Keep (fun k => k = b) w w' := Keep.of_grown h.grown (fun g hg => by cases hg; rfl)
theorem lit_ne {x y : Int} (h : y ≠ x) : (Lit.int .i64 y) ≠ (Lit.int .i64 x) := fun e => h (by injection e)
/-- 'm[k] = v' -/
theorem IMap.store (h : IMap P k w b f n) {t e : TypeId} (hk : P.underlying k = some (.int .i64)) (ht : P.underlying t = some (.map k e)) (hn : n < maxLen) {x : Int} (hx : (Lit.int .i64 x).wf = true) (v : Value) :
    ∃ w', (Instr.mapUpdate t (.map (some b)) (.int .i64 x) v).run P w = .ok () w' ∧ IMap P k w' b (fun y => if y = x then some v else f y) (if (f x).isSome then n else n + 1) ∧ Keep (fun k => k = b) w w' := by
  obtain ⟨D, h1, h2, h3⟩ := h
  obtain ⟨w1, hrun, r1, r2⟩ := h1.store (int_keyed hk) ht hn (R := RV) (d := .held v) (ps := []) (keyLit hk hx) rfl
  have hsz := size_put (k := .int .i64 x) (h1.tidy (int_keyed hk)) (.held v : DataW Value)
  rw [(h3 x hx).1, h2] at hsz
  refine ⟨w1, hrun, ⟨D.put (.int .i64 x) (.held v), ?_, hsz, fun y hy => ?_⟩, Keep.of_turned r2⟩
  · have := ownsMap_tight r1
    rw [hsz] at this
    exact this
  · by_cases hyx : y = x
    · subst hyx
      simp only [if_true]
      refine ⟨has_put_same h1.isMap (show WideAt.IsKeyLit (.int .i64 y) from trivial) _, fun v' hv' z => ?_⟩
      cases hv'
      exact atKey_put_same h1.isMap (show WideAt.IsKeyLit (.int .i64 y) from trivial) _ _
    · simp only [if_neg hyx]
      refine ⟨(has_put_other (lit_ne hyx) _).trans (h3 y hy).1, fun v' hv' z => (atKey_put_other (lit_ne hyx) _ _).trans ((h3 y hy).2 v' hv' z)⟩
/-- 'delete(m, k)' -/
theorem IMap.drop (h : IMap P k w b f n) {t e : TypeId} (hk : P.underlying k = some (.int .i64)) (ht : P.underlying t = some (.map k e)) {x : Int} (hx : (Lit.int .i64 x).wf = true) (ty : TypeId) :
    ∃ w', (Builtin.delete_ #[t, k] ty #[.map (some b), .int .i64 x]).run P w = .ok (.tuple #[]) w' ∧ IMap P k w' b (fun y => if y = x then none else f y) (if (f x).isSome then n - 1 else n) ∧ Keep (fun k => k = b) w w' := by
  obtain ⟨D, h1, h2, h3⟩ := h
  obtain ⟨w1, hrun, r1, r2⟩ := h1.drop (int_keyed hk) ht (keyLit hk hx) ty
  have hsz := size_del (k := .int .i64 x) (h1.tidy (int_keyed hk))
  rw [(h3 x hx).1, h2] at hsz
  have hsz2 : Maps.size (D.del (.int .i64 x)) = if (f x).isSome then n - 1 else n := by
    cases hf : (f x).isSome <;> rw [hf] at hsz <;> simp at hsz ⊢ <;> omega
  refine ⟨w1, hrun, ⟨D.del (.int .i64 x), ?_, hsz2, fun y hy => ?_⟩, Keep.of_turned r2⟩
  · have := ownsMap_tight r1
    rw [hsz2] at this
    exact this
  · by_cases hyx : y = x
    · subst hyx
      simp only [if_true]
      exact ⟨has_del_same, fun v' hv' => by cases hv'⟩
    · simp only [if_neg hyx]
      refine ⟨(has_del_other (lit_ne hyx)).trans (h3 y hy).1, fun v' hv' z => (atKey_del_other (lit_ne hyx) _).trans ((h3 y hy).2 v' hv' z)⟩
end
/-- 'build' at the list of a region's operations, once its run is known -/
theorem wpl_build {P : Program} {w : World} {ops : Array Oper} {rest : List Oper} {o : Oper} {a : Act} {Q : Exit → Act → World → Prop} (hgd : o.guard = none) (t : TypeId) (parts : Array (Nat × Operand)) (ho : o.op = .build t parts) {ps : Array (Nat × Value)} {v : Value}
    (hp : (parts.map fun (i, x) => (i, a.eval x)) = ps) (hrun : (Instr.build t ps).run P w = .ok v w) (h : wpList P ops Q rest (a.put o.dst v) w) : wpList P ops Q (o :: rest) a w := by
  refine wpList_plain hgd fun K hK' => ?_
  unfold Oper.wp
  subst hp
  simp only [execOp, ho, hrun, Sem.run_bind, Sem.run_pure, Result.andThen_ok]
  exact hK' _ _ h
theorem wpl_makeMap {P : Program} {w : World} {ops : Array Oper} {rest : List Oper} {o : Oper} {a : Act} {Q : Exit → Act → World → Prop} (hgd : o.guard = none) (t : TypeId) (ho : o.op = .makeMap t none)
    (h : wpList P ops Q rest (a.put o.dst (.map (some w.heap.size))) (w.alloc (.map #[] 0))) : wpList P ops Q (o :: rest) a w := by
  refine wpList_plain hgd fun K hK' => ?_
  have hr := @run_makeMap P t w
  unfold Oper.wp
  simp [execOp, ho, hr, Result.andThen]
  exact hK' _ _ h
theorem setCells_alloc (w : World) (t : TypeId) : ∀ (vs pre post : List Value), post.length = vs.length → (w.alloc (.cells (pre ++ post).toArray t)).setCells w.heap.size pre.length vs = w.alloc (.cells (pre ++ vs).toArray t)
  | [], pre, post, h => by
    obtain rfl : post = [] := List.length_eq_zero_iff.1 h
    rfl
  | v :: r, pre, post, h => by
    match post, h with
    | p :: post, h =>
      have e : (pre ++ p :: post).toArray.setIfInBounds pre.length v = ((pre ++ [v]) ++ post).toArray := by simp
      have ih := setCells_alloc w t r (pre ++ [v]) post (by simpa using h)
      rw [World.setCells, World.setCell_alloc_new, e]
      simpa using ih
/-- a whole value stored into a new block -/
theorem store_new {P : Program} (w : World) (t : TypeId) (zs vs : Array Value) (hs : zs.size = vs.size) (h1 : vs.all (·.oneCell') = true) :
    (storeCells ⟨w.heap.size, 0, none⟩ vs.toList).run P (w.alloc (.cells zs t)) = .ok () (w.alloc (.cells vs t)) := by
  have hb := Blk.new w zs t
  have h := run_storeCells_cells (P := P) w.heap.size 0 vs.toList 0 (w.alloc (.cells zs t)) (fun j hj => by rw [hb.cell]; simp at hj ⊢; omega) (fun j hj => hb.free _)
    (fun v hv => (Array.all_eq_true_iff_forall_mem.1 h1) v (by simpa using hv))
  rw [h]
  have e := setCells_alloc w t vs.toList [] zs.toList (by simp [hs])
  simpa using e
end Go.Proofs.Ytppcccocnmhbgaa
