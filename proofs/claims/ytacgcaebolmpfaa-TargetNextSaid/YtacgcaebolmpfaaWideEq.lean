/- '==' on two numbers of four words. -/
import Derived.Test.YtacgcaebolmpfaaRows
import Derived.Test.YtacgcaebolmpfaaWideBase
import Derived.Test.YtacgcaebolmpfaaEq
namespace Go.Proofs.Ytacgcaebolmpfaa
open Go.RowKit

theorem one_lt : 1 < W256 := by rw [W256_eq]; decide
theorem isAgg_u64 (w : World) : (isAgg 23).run Try.prog w = .ok false w := by kernel_rfl
theorem sizeOf_u64 (w : World) : (Go.sizeOf 23).run Try.prog w = .ok 1 w := by kernel_rfl
theorem wd_of (n : Nat) : ∀ i, i < 4 → (wcs n)[i]? = some (.int .u64 (wd n i)) := by
  intro i h; rcases (by omega : i = 0 ∨ i = 1 ∨ i = 2 ∨ i = 3) with h | h | h | h <;> subst h <;> rfl
theorem wd_all (a b : Nat) (ha : a < W256) (hb : b < W256) : ((List.range 4).all fun i => wd a i == wd b i) = (a == b) := by
  rw [W256_eq] at *
  rw [Bool.eq_iff_iff, List.all_eq_true, beq_iff_eq]
  constructor
  · intro h
    refine wn_ext ha hb fun k hk => ?_
    have := h k (List.mem_range.2 hk)
    rw [beq_iff_eq, wd_eq, wd_eq] at this
    omega
  · rintro rfl; simp
/-- '==' on two numbers -/
theorem weql (a b : Nat) (ha : a < W256) (hb : b < W256) (w : World) : (binOp .eql 25 (wv a) (wv b)).run Try.prog w = .ok (.bool (a == b)) w := by
  rw [← wd_all a b ha hb]
  exact run_eql_ints 25 23 4 .u64 .u64 (wcs a) (wcs b) (wd a) (wd b) w Try.underlying25 Try.underlying23 isAgg_u64 sizeOf_u64 (wd_of a) (wd_of b)

end Go.Proofs.Ytacgcaebolmpfaa
