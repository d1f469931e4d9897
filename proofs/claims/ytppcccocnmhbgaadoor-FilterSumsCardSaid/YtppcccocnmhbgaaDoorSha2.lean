/- SHA-256, the program's: RotateLeft32, xor3. -/
import Derived.Test.YtppcccocnmhbgaaDoorRows
import Derived.Test.YtppcccocnmhbgaaDoorSha1
import Derived.Test.YtppcccocnmhbgaaDoorMem
import Derived.Test.YtppcccocnmhbgaaDoorRegion
import Derived.Deep.LoopGhost
import Derived.Deep.MidRow
namespace Go.Proofs.YtppcccocnmhbgaaDoor
open Go Go.RowKit
set_option linter.unusedSimpArgs false
set_option linter.unusedVariables false
set_option maxRecDepth 100000

theorem shl32 (x : B32) (s : Nat) (h : s ≤ 32) : Op.shift .shl .u32 (iv x) .u64 (s : Int) = pure (.int .u32 (iv (x <<< s))) := by
  rw [shift_shl .u32 .u64 (iv x) (s : Int) (by omega) (by show (s : Int) ≤ 32; omega), Int.toNat_natCast, iv_shl]
theorem shr32 (x : B32) (s : Nat) (h : s ≤ 32) : Op.shift .shr .u32 (iv x) .u64 (s : Int) = pure (.int .u32 (iv (x >>> s))) := by
  rw [shift_shr .u32 .u64 (iv x) (s : Int) (by omega) (by show (s : Int) ≤ 32; omega), Int.toNat_natCast, iv_shr]
theorem rot_mask (n s : Nat) (h0 : 0 < n) (hs : n + s = 32) : bits .and .u64 (IntKind.u64.wrap (-(n : Int))) 31 = (s : Int) := by
  have hw : IntKind.u64.wrap (-(n : Int)) = 18446744073709551616 - n := by
    simp [IntKind.wrap, IntKind.bits, IntKind.signed]; omega
  rw [hw]
  have := bits_mask .u64 64 (by decide) (fun m h0 h1 => by simp [IntKind.wrap, IntKind.bits, IntKind.signed]; omega) 5 (by decide) (18446744073709551616 - (n : Int)) (by omega) (by omega)
  rw [show (2 : Int) ^ 5 - 1 = 31 from rfl] at this
  rw [this]; omega
theorem rotl (x : B32) (n : Nat) (h0 : 0 < n) (h1 : n < 32) (w : World) :
    Calls Tryd.prog 59 #[.int .u32 (iv x), .int .i64 (-(n : Int))] w fun e w' => e = .returned (.int .u32 (iv (ror x n))) ∧ w = w' := by
  obtain ⟨s, hs⟩ : ∃ s, n + s = 32 := ⟨32 - n, by omega⟩
  have hm := rot_mask n s h0 hs
  have hd : IntKind.u64.wrap (32 - (s : Int)) = (n : Int) := by simp [IntKind.wrap, IntKind.bits, IntKind.signed]; omega
  have e1 := shl32 x s (by omega)
  have e2 := shr32 x n (by omega)
  have OR := iv_or
  have HE := Lib.hid (show (x <<< s) ||| (x >>> n) = ror x n from by rw [← ror_or x n h1, show 32 - n = s from by omega])
  clear h0 h1 hs
  go_enter Tryd.func59, Tryd.ntmps59
  go_wp2
  go_ret
  exact ⟨by rw [← HE.out]; rfl, rfl⟩
theorem xor3 (x c : B32) (a b : Nat) (ha : 0 < a) (ha1 : a < 32) (hb : 0 < b) (hb1 : b < 32) (w : World) :
    Calls Tryd.prog 58 #[.int .u32 (iv x), .int .i64 (a : Int), .int .i64 (b : Int), .int .u32 (iv c)] w fun e w' => e = .returned (.int .u32 (iv (ror x a ^^^ ror x b ^^^ c))) ∧ w = w' := by
  have XOR := iv_xor
  have R1 := Lib.hid (rotl x a ha ha1 w)
  have R2 := Lib.hid (rotl x b hb hb1 w)
  have hna : IntKind.i64.wrap (-(a : Int)) = -(a : Int) := by rw [IntKind.wrap_i64]; omega
  have hnb : IntKind.i64.wrap (-(b : Int)) = -(b : Int) := by rw [IntKind.wrap_i64]; omega
  go_enter Tryd.func58, Tryd.ntmps58
  go_wp2_with fail
  refine R1.out.mono ?_
  rintro e w1 ⟨rfl, rfl⟩
  go_wp2_with fail
  refine R2.out.mono ?_
  rintro e w1 ⟨rfl, rfl⟩
  go_wp2
  go_ret
  exact ⟨rfl, rfl⟩
end Go.Proofs.YtppcccocnmhbgaaDoor
