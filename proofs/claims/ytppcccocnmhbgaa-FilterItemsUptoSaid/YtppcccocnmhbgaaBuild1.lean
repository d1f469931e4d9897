/- The filter of nothing (awake). -/
import Derived.Test.YtppcccocnmhbgaaUnder
import Derived.Test.YtppcccocnmhbgaaBuild0
namespace Go.Proofs.Ytppcccocnmhbgaa
open Go Go.RowKit
set_option linter.unusedSimpArgs false
set_option linter.unusedVariables false
set_option maxRecDepth 100000

set_option maxHeartbeats 1600000 in
/-- the filter of nothing -/
theorem build_nil (n : Nat) (w : World) : Calls Try.prog 11 #[hv n, .slice none 0 0] w fun e w' => ∃ p c o, e = .returned (.tuple #[.slice p 1 c, .int .i64 0]) ∧ Row w' 5 (.slice p 1 c) [0] o ∧ (∀ g, o = some g → w.heap.size ≤ g) ∧ Below w.heap.size w w' := by
  obtain ⟨i0, hi, hz0, hz1, hz2⟩ := info_parts u8info'
  have B0 := Blk.new w (hcs n) 23
  have K0 := (Below.refl w.heap.size w).alloc (Nat.le_refl _) (.cells (hcs n) 23)
  have PO := Lib.hid (once_nil (w.alloc (.cells (hcs n) 23)))
  have PS := Lib.hid (fun w => sort0 w)
  have PN := Lib.hid (fun w => rice_new w)
  have PE : Hid (∀ w : World, Calls Try.prog 36 #[.int .u64 0] w fun e w' => e = .returned (.slice (some ⟨w.heap.size, 0, none⟩) 1 1) ∧ w' = w.alloc (.cells #[.int .u8 0] 5)) := fun w => enc_small 0 (by decide) w
  have HB := Lib.hid (And.intro B0 K0)
  clear B0 K0
  go_enter Try.func11, Try.ntmps11
  go_upto_region 3 with fail
  generalize w.alloc (.cells (hcs n) 23) = w0 at *
  generalize hgw : w.heap.size = hb at *
  go_wp2_with fail
  refine PO.out.mono ?_
  rintro e w1 ⟨rfl, hb1⟩
  have B1 := HB.out.1.beyond hb1
  have PU := Lib.hid (under_any n 0 w1)
  have K1 := Lib.hid (HB.out.2.trans (hb1.mono (by rw [← hgw]; exact HB.out.2.size)))
  clear hb1
  go_wp2_with (refine wpl_load rfl 23 (.tmp 2) rfl rfl B1 Try.underlying23 (by rw [hcs_size]; kernel_rfl) ?_)
  refine PU.out.mono ?_
  rintro e w2 ⟨v, rfl, _, hb2⟩
  have K2 := Lib.hid (K1.out.trans (hb2.mono (by rw [← hgw]; exact K1.out.size)))
  clear hb2 B1
  go_wp2
  go_loopg [8, 26] 1 (fun gh l i wx => l = .slice none 0 0 ∧ i = .int .i64 0 ∧ wx = w2)
  case atStart => exact ⟨rfl, rfl, rfl⟩
  case round =>
    obtain ⟨rfl, rfl, hwx⟩ := hrel
    obtain rfl : w2 = wr := hwx.symm
    go_wp2_with fail
    refine (PS.out _).mono ?_
    rintro e w3 ⟨rfl, rfl⟩
    go_wp2_with fail
    refine (PN.out _).mono ?_
    rintro e w3 ⟨rfl, bw, hb3⟩
    have PB := Lib.hid (rice_bytes0 _ _ _ (bw.alloc (.cells #[.int .u8 0] 5)))
    have R4 : Row (w3.alloc (.cells #[.int .u8 0] 5)) 5 (.slice (some ⟨w3.heap.size, 0, none⟩) 1 1) [0] (some w3.heap.size) :=
      .inr ⟨w3.heap.size, 1, #[.int .u8 0], rfl, rfl, Blk.new _ _ _, Nat.le_refl _, Nat.le_refl _, (by decide), rfl⟩
    obtain ⟨v5, w5, o5, run5, R5, ho5, k5⟩ := row_appendL (P := Try.prog) 26 26 i0 (.int .u8 0) Try.underlying26 hi hz0 hz1 hz2 rfl R4 (p := none) (c := 0) (ys := []) (Lib.BytesIn.nil _ _ _) (by decide)
    have K4 := K2.out.trans (hb3.mono (by rw [← hgw]; exact K2.out.size))
    have hG3 : hb ≤ w3.heap.size := by rw [← hgw]; exact K4.size
    have H5 := Lib.hid (And.intro R5 (own_step hgw (K4.alloc hG3 (.cells #[.int .u8 0] 5)) (fun g hg => by cases hg; exact hG3) ho5 k5))
    obtain ⟨q5, c5, rfl, _⟩ := R5.form
    clear R4 R5 ho5 k5 K4 hG3
    have K3 := Lib.hid (K2.out.trans (hb3.mono (by rw [← hgw]; exact K2.out.size)))
    clear bw hb3
    go_wp2
    go_loopg [42] 1 (fun gh i wx => i = .int .i64 0 ∧ wx = w3)
    case atStart => exact ⟨rfl, rfl⟩
    case round =>
      obtain ⟨rfl, hwx⟩ := hrel
      obtain rfl : w3 = wr := hwx.symm
      go_wp2_with fail
      refine (PE.out _).mono ?_
      rintro e w4 ⟨rfl, rfl⟩
      go_wp2_with fail
      refine PB.out.mono ?_
      rintro e w4 ⟨rfl, hw4⟩
      obtain rfl : w3.alloc (.cells #[.int .u8 0] 5) = w4 := hw4
      go_wp2_with (at_builtin; refine wpl_append rfl _ _ 26 rfl rfl rfl run5 ?_)
      go_ret2
      subst hgw
      exact ⟨q5, c5, o5, rfl, H5.out⟩
end Go.Proofs.Ytppcccocnmhbgaa
