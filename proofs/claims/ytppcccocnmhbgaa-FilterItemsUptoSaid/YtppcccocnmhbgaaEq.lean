/- '==' on two arrays of integers. -/
import Derived.WalkKit
import Derived.Laws.StructEq
namespace Go.Proofs.Ytppcccocnmhbgaa
open Go

theorem run_equalIn_ints {P : Program} (d : Nat) (t e : TypeId) (len : Nat) (k k' : IntKind) (xs ys : Array Value) (f g : Nat → Int) (w : World)
    (ht : P.underlying t = some (.array len e)) (he : P.underlying e = some (.int k')) (ha : ∀ w, (isAgg e).run P w = .ok false w) (hs : ∀ w, (Go.sizeOf e).run P w = .ok 1 w)
    (hx : ∀ i, i < len → xs[i]? = some (.int k (f i))) (hy : ∀ i, i < len → ys[i]? = some (.int k (g i))) :
    (Op.equalIn (d + 2) t (.agg xs) (.agg ys)).run P w = .ok ((List.range len).all fun i => f i == g i) w := by
  have px : ∀ i, i < len → ∀ w, (Go.part e xs i).run P w = .ok (.int k (f i)) w := by
    intro i hi w; simp [Go.part, Sem.run_bind, ha, hx i hi]
  have py : ∀ i, i < len → ∀ w, (Go.part e ys i).run P w = .ok (.int k (g i)) w := by
    intro i hi w; simp [Go.part, Sem.run_bind, ha, hy i hi]
  unfold Op.equalIn
  simp only [Sem.run_bind, run_underlying ht, Result.andThen_ok, hs, Nat.mul_one]
  rw [Std.Legacy.Range.forIn_eq_forIn_range']
  simp only [Std.Legacy.Range.size, Nat.sub_zero, Nat.add_sub_cancel, Nat.div_one]
  have key : ∀ (n s : Nat) (w : World), s + n ≤ len → Sem.run P (forIn (m := Sem) (List.range' s n) ((none, ()) : Option Bool × Unit) (fun i (_ : Option Bool × Unit) => do
            let __do_lift ← Go.part e xs i
            let __do_lift_1 ← Go.part e ys i
            let __do_lift ← Op.equalIn (d + 1) e __do_lift __do_lift_1
            if (!__do_lift) = true then pure (ForInStep.done (some false, ())) else pure (ForInStep.yield (none, ())))) w =
      .ok (if (List.range' s n).all fun i => f i == g i then (none, ()) else (some false, ())) w := by
    intro n
    induction n with
    | zero => intro s w _; simp
    | succ n ih =>
      intro s w h
      rw [List.range'_succ, List.forIn_cons, List.all_cons]
      simp only [Sem.run_bind, px s (by omega), py s (by omega), Result.andThen_ok, run_equalIn_int w d e k k' _ _ he]
      by_cases hfg : f s = g s
      · simp only [hfg, beq_self_eq_true, Bool.not_true, Bool.false_eq_true, if_false, Sem.run_pure, Result.andThen_ok, Bool.true_and]
        exact ih (s + 1) w (by omega)
      · simp [hfg]
  rw [key len 0 w (by omega), Result.andThen_ok, List.range_eq_range']
  cases (List.range' 0 len).all (fun i => f i == g i) <;> rfl

/-- '==' on two arrays of integers -/
theorem run_eql_ints {P : Program} (t e : TypeId) (len : Nat) (k k' : IntKind) (xs ys : Array Value) (f g : Nat → Int) (w : World)
    (ht : P.underlying t = some (.array len e)) (he : P.underlying e = some (.int k')) (ha : ∀ w, (isAgg e).run P w = .ok false w) (hs : ∀ w, (Go.sizeOf e).run P w = .ok 1 w)
    (hx : ∀ i, i < len → xs[i]? = some (.int k (f i))) (hy : ∀ i, i < len → ys[i]? = some (.int k (g i))) :
    (binOp .eql t (.agg xs) (.agg ys)).run P w = .ok (.bool ((List.range len).all fun i => f i == g i)) w := by
  rw [run_eql_struct, run_equalIn_ints 9998 t e len k k' xs ys f g w ht he ha hs hx hy]; rfl
theorem run_neq_ints {P : Program} (t e : TypeId) (len : Nat) (k k' : IntKind) (xs ys : Array Value) (f g : Nat → Int) (w : World)
    (ht : P.underlying t = some (.array len e)) (he : P.underlying e = some (.int k')) (ha : ∀ w, (isAgg e).run P w = .ok false w) (hs : ∀ w, (Go.sizeOf e).run P w = .ok 1 w)
    (hx : ∀ i, i < len → xs[i]? = some (.int k (f i))) (hy : ∀ i, i < len → ys[i]? = some (.int k (g i))) :
    (binOp .neq t (.agg xs) (.agg ys)).run P w = .ok (.bool (!((List.range len).all fun i => f i == g i))) w := by
  rw [run_neq_struct, run_equalIn_ints 9998 t e len k k' xs ys f g w ht he ha hs hx hy]; rfl
end Go.Proofs.Ytppcccocnmhbgaa
