/- The filter of nothing (awake). -/
import Derived.Test.YtppcccocnmhbgaaTwo
namespace Go.Proofs.Ytppcccocnmhbgaa
open Go Go.RowKit
set_option linter.unusedSimpArgs false
set_option linter.unusedVariables false
set_option maxRecDepth 100000

theorem once_nil (w : World) : Calls Try.prog 31 #[.slice none 0 0] w fun e w' => e = .returned (.slice none 0 0) ∧ Below w.heap.size w w' := by
  go_enter Try.func31, Try.ntmps31
  go_wp2_with (refine wpl_makeMap rfl _ rfl ?_)
  go_loopg [4, 10] 1 (fun gh l i wx => l = .slice none 0 0 ∧ i = .int .i64 0 ∧ wx = w.alloc (.map #[] 0))
  case atStart => exact ⟨rfl, rfl, rfl⟩
  case round =>
    obtain ⟨rfl, rfl, rfl⟩ := hrel
    go_wp2
    go_ret
    exact ⟨rfl, (Below.refl _ _).alloc (Nat.le_refl _) _⟩
theorem enc_small (n : Nat) (hn : n < 253) (w : World) : Calls Try.prog 36 #[.int .u64 (n : Int)] w fun e w' => e = .returned (.slice (some ⟨w.heap.size, 0, none⟩) 1 1) ∧ w' = w.alloc (.cells #[.int .u8 (n : Int)] 5) := by
  have h1 : (n : Int) < 253 := by omega
  go_enter Try.func36, Try.ntmps36
  go_wp2
  go_ret
  exact ⟨rfl, rfl⟩
theorem none_rice (p : Nat) (w : World) (h : w.cell? ⟨p, 0, none⟩ = some (.bool true)) : Calls Try.prog 68 #[.pointer (some ⟨p, 0, none⟩)] w fun e w' => e = .returned (.bool false) ∧ w = w' := by
  go_enter Try.func68, Try.ntmps68
  go_wp2
  go_ret
  exact ⟨rfl, rfl⟩
theorem rice_new (w : World) : Calls Try.prog 34 #[] w fun e w' => e = .returned (.pointer (some ⟨w.heap.size, 0, none⟩)) ∧ Blk w' w.heap.size #[.bool true, .slice none 0 0, .int .i64 0] 105 ∧ Below w.heap.size w w' := by
  go_enter Try.func34, Try.ntmps34
  go_wp2
  go_ret
  exact ⟨rfl, Blk.new _ _ _, (Below.refl _ _).alloc (Nat.le_refl _) _⟩
theorem rice_bytes0 (p : Nat) (u : Value) (w : World) (h : Blk w p #[.bool true, .slice none 0 0, u] 105) : Calls Try.prog 37 #[.pointer (some ⟨p, 0, none⟩)] w fun e w' => e = .returned (.slice none 0 0) ∧ w = w' := by
  have P := Lib.hid (none_rice p w (h.cell 0))
  have Q := Lib.hid (Try.bytes_Clone_nil 0 0 w)
  have c := h.cell
  clear h
  go_enter Try.func37, Try.ntmps37
  go_wp2_with fail
  refine P.out.mono ?_
  rintro e w1 ⟨rfl, rfl⟩
  go_wp2_with fail
  refine Q.out.mono ?_
  rintro e w1 ⟨rfl, rfl⟩
  go_wp2
  go_ret
  exact ⟨rfl, rfl⟩
theorem len64_0 (w : World) : Calls Try.prog 67 #[.int .u64 0] w fun e w' => e = .returned (.int .i64 0) ∧ w = w' := (Try.bits_Len 0 w (by decide) (by decide)).mono fun _ _ ⟨h1, h2⟩ => ⟨h1, h2.symm⟩
theorem insort0 (w : World) : Calls Try.prog 93 #[.slice none 0 0, .int .i64 0, .int .i64 0] w fun e w' => e = .returned (.tuple #[]) ∧ w = w' := by
  go_enter Try.func93, Try.ntmps93
  go_wp2
  go_loopg [6] 1 (fun gh i wx => i = .int .i64 1 ∧ wx = w)
  case atStart => exact ⟨rfl, rfl⟩
  case round =>
    obtain ⟨rfl, rfl⟩ := hrel
    go_wp2
    go_end0
    exact ⟨rfl, rfl⟩
theorem pdq0 (w : World) : Calls Try.prog 66 #[.slice none 0 0, .int .i64 0, .int .i64 0, .int .i64 0] w fun e w' => e = .returned (.tuple #[]) ∧ w = w' := by
  have P := Lib.hid (insort0 w)
  go_enter Try.func66, Try.ntmps66
  go_wp2
  go_loopg [1, 2, 3, 8, 9] 1 (fun gh a b l x y wx => a = .int .i64 0 ∧ b = .int .i64 0 ∧ l = .int .i64 0 ∧ x = .bool true ∧ y = .bool true ∧ wx = w)
  case atStart => exact ⟨rfl, rfl, rfl, rfl, rfl, rfl⟩
  case round =>
    obtain ⟨rfl, rfl, rfl, rfl, rfl, rfl⟩ := hrel
    go_wp2_with fail
    refine P.out.mono ?_
    rintro e w1 ⟨rfl, rfl⟩
    go_wp2
    exact bodyPost_ret (results_none Try.results66 _ _ _) rfl ⟨rfl, rfl⟩
theorem sort0 (w : World) : Calls Try.prog 33 #[.slice none 0 0] w fun e w' => e = .returned (.tuple #[]) ∧ w = w' := by
  have P := Lib.hid (len64_0 w)
  have Q := Lib.hid (pdq0 w)
  go_enter Try.func33, Try.ntmps33
  go_wp2_with fail
  refine P.out.mono ?_
  rintro e w1 ⟨rfl, rfl⟩
  go_wp2_with fail
  refine Q.out.mono ?_
  rintro e w1 ⟨rfl, rfl⟩
  go_wp2
  go_end0
  exact ⟨rfl, rfl⟩
end Go.Proofs.Ytppcccocnmhbgaa
