/- Small facts on bits and bytes, for whoever reads or writes them. -/
import Derived.Test.YtppcccocnmhbgaaRows
import Derived.Test.YtppcccocnmhbgaaPack
import Derived.Test.YtppcccocnmhbgaaShelf
import Derived.BigQuiet
import Derived.WalkMore
import Derived.ScopeJumps
namespace Go.Proofs.Ytppcccocnmhbgaa
open Go Go.RowKit
set_option maxRecDepth 100000
set_option linter.unusedSimpArgs false

/-- the blocks of a writer -/
def foot (p : Nat) (o : Option Nat) : Nat → Prop := fun k => k = p ∨ o = some k
theorem u8info : (Try.prog.info? 5).map (fun i => (i.zero, i.size, i.bytes)) = some (some (.int .u8 0), 1, 1) := by kernel_rfl
theorem i64_rem8 (n : Nat) (h : n ≤ 1099511627776) : IntKind.i64.wrap ((n : Int).tmod 8) = ((n % 8 : Nat) : Int) := by
  rw [Int.tmod_eq_emod_of_nonneg (by omega)]
  exact (IntWalk.i64_in _ (by omega)).trans (by omega)
theorem i64_quo8 (n : Nat) (h : n ≤ 1099511627776) : IntKind.i64.wrap ((n : Int).tdiv 8) = ((n / 8 : Nat) : Int) := by
  rw [Int.tdiv_eq_ediv_of_nonneg (by omega)]
  exact (IntWalk.i64_in _ (by omega)).trans (by omega)
theorem bit_put (n k : Nat) (h : n < 18446744073709551616) : bits .and .u64 ((n : Int) / 2 ^ k) 1 = ((n.testBit k).toNat : Int) := by
  rw [← bt_eq]
  have e : ((n : Int) / 2 ^ k) = ((n / 2 ^ k : Nat) : Int) := by rw [Int.natCast_ediv, Int.natCast_pow]; rfl
  rw [e, and1 _ (Nat.lt_of_le_of_lt (Nat.div_le_self _ _) h)]; rfl
theorem tb_eq (b : Bool) : (((b.toNat : Nat) : Int) == 1) = b := by cases b <;> rfl
def uOf : Value → Nat | .int _ z => z.toNat | _ => 0
end Go.Proofs.Ytppcccocnmhbgaa
