/- The document's Number. -/
import Derived.Test.YtppcccocnmhbgaaLe
namespace Go.Proofs.Ytppcccocnmhbgaa
open Go Go.RowKit
set_option linter.unusedSimpArgs false
set_option linter.unusedVariables false
set_option maxRecDepth 100000

set_option maxHeartbeats 1600000 in
theorem rnum (ys : List Int) (q : Option Addr) (c : Nat) (w : World) (hy : Lib.BytesIn w q ys.length ys) (hr : ∀ y ∈ ys, 0 ≤ y ∧ y ≤ 255) (h8 : ys.length ≤ 8) :
    Calls Try.prog 71 #[.slice q ys.length c] w fun e w' => e = .returned (.int .u64 ((leN ys : Nat) : Int)) ∧ w = w' := by
  have HY := Lib.hid hy
  have HR := Lib.hid hr
  have H8 := Lib.hid h8
  obtain ⟨N, hN⟩ : ∃ N, N = ys.length := ⟨_, rfl⟩
  rw [← hN] at HY h8 ⊢
  have HN := Lib.hid hN
  clear hy hr hN
  go_enter Try.func71, Try.ntmps71
  go_wp2
  go_loopg [3, 8] N (fun gh s i wx => ∃ k t : Nat, k ≤ N ∧ s = .int .u64 (t : Int) ∧ i = .int .i64 (k : Int) ∧ gh = N - k ∧ Hid (t = leN (ys.take k)) ∧ wx = w)
  case atStart => exact ⟨0, 0, Nat.zero_le _, rfl, rfl, rfl, by rw [List.take_zero]; rfl, rfl⟩
  case round =>
    obtain ⟨k, t, hk, rfl, rfl, hg, HT, hwx⟩ := hrel
    obtain rfl : w = wr := hwx.symm
    have HGK := Lib.hid hg
    clear hg
    by_cases hlt : k < N
    · obtain ⟨b, o, rfl, hc⟩ := HY.out.at (by omega)
      have cb := hc k hlt
      have hst := le_step ys HR.out k (by rw [← HN.out]; exact hlt) H8.out
      have hx := getD_rng HR.out k
      generalize ys.getD k 0 = x at *
      rw [← HT.out] at hst
      generalize hu : leN (ys.take (k + 1)) = u at *
      have HU := Lib.hid hu
      obtain ⟨hx0, hx1⟩ := hx
      have a2 : IntKind.i64.wrap (8 * (k : Int)) = 8 * (k : Int) := by rw [IntKind.wrap_i64]; omega
      have hux : IntKind.u64.wrap x = x := IntWalk.u64_in _ (by omega)
      clear hc hu
      go_wp2
      go_roundg (N - (k + 1))
      case measure => rw [HGK.out]; omega
      case rel => exact ⟨k + 1, u, hlt, rfl, rfl, rfl, HU.out.symm, rfl⟩
    · obtain rfl : k = N := by omega
      go_wp2
      go_ret
      refine ⟨congrArg (fun n : Nat => Ending.returned (.int .u64 (n : Int))) ?_, rfl⟩
      rw [HT.out, List.take_of_length_le (by rw [HN.out]; exact Nat.le_refl _)]
end Go.Proofs.Ytppcccocnmhbgaa
