/- Bytes as numbers, the lowest first: the document's Number, the closure in filter.under; no object in sight. -/
import Derived.Test.YtppcccocnmhbgaaRows
import Derived.Test.YtppcccocnmhbgaaSip0
import Derived.Test.YtppcccocnmhbgaaMem
import Derived.Test.YtppcccocnmhbgaaRegion
import Derived.Deep.LoopGhost
namespace Go.Proofs.Ytppcccocnmhbgaa
open Go Go.RowKit
set_option linter.unusedSimpArgs false
set_option linter.unusedVariables false
set_option maxRecDepth 100000

theorem leN_take_lt (ys : List Int) (hr : ∀ y ∈ ys, 0 ≤ y ∧ y ≤ 255) (k : Nat) (hk : k ≤ ys.length) : leN (ys.take k) < 256 ^ k := by
  have := leN_lt (ys.take k) (fun y hy => hr y (List.mem_of_mem_take hy))
  rwa [List.length_take, Nat.min_eq_left hk] at this
theorem leN_take_succ (ys : List Int) (k : Nat) (hk : k < ys.length) : leN (ys.take (k + 1)) = leN (ys.take k) + 256 ^ k * (ys.getD k 0).toNat := by
  rw [List.take_succ_eq_append_getElem hk, leN_snoc, List.length_take, Nat.min_eq_left (by omega)]
  congr 2
  rw [List.getD_eq_getElem?_getD, List.getElem?_eq_getElem hk]; rfl
theorem pow256 (k : Nat) : 256 ^ k = 2 ^ (8 * k) := by rw [Nat.pow_mul]
theorem le_or (a k : Nat) (x : Int) (hk : k < 8) (ha : a < 256 ^ k) (h0 : 0 ≤ x) (h1 : x ≤ 255) : bits .or .u64 (a : Int) (IntKind.u64.wrap (x * 2 ^ (8 * k))) = ((a + 256 ^ k * x.toNat : Nat) : Int) := by
  obtain ⟨n, rfl⟩ := Int.eq_ofNat_of_zero_le h0
  have hn : n < 256 := by omega
  rw [pow256] at *
  have hp : 2 ^ (8 * k) * n < 2 ^ 64 := by
    have h2 : 2 ^ (8 * k) * n < 2 ^ (8 * k) * 2 ^ 8 := Nat.mul_lt_mul_of_pos_left hn (Nat.two_pow_pos _)
    rw [← Nat.pow_add] at h2
    exact Nat.lt_of_lt_of_le h2 (Nat.pow_le_pow_right (by decide) (by omega))
  have ha2 : a < 2 ^ 64 := Nat.lt_of_lt_of_le ha (Nat.pow_le_pow_right (by decide) (by omega))
  have e : ((n : Nat) : Int) * 2 ^ (8 * k) = ((2 ^ (8 * k) * n : Nat) : Int) := by rw [Int.natCast_mul, Int.natCast_pow]; exact Int.mul_comm _ _
  show bits .or .u64 (a : Int) (IntKind.u64.wrap (((n : Nat) : Int) * 2 ^ (8 * k))) = ((a + 2 ^ (8 * k) * n : Nat) : Int)
  rw [e, IntWalk.u64_in _ (by omega)]
  rw [show bits .or .u64 (a : Int) ((2 ^ (8 * k) * n : Nat) : Int) = ((a ||| (2 ^ (8 * k) * n) : Nat) : Int) from u64_or_nat _ _ ha2 hp]
  congr 1
  rw [Nat.add_comm a, Nat.two_pow_add_eq_or_of_lt ha, Nat.or_comm]
theorem le_step (ys : List Int) (hr : ∀ y ∈ ys, 0 ≤ y ∧ y ≤ 255) (k : Nat) (hk : k < ys.length) (h8 : ys.length ≤ 8) :
    bits .or .u64 ((leN (ys.take k) : Nat) : Int) (IntKind.u64.wrap (ys.getD k 0 * 2 ^ (8 * k))) = ((leN (ys.take (k + 1)) : Nat) : Int) := by
  have hx : 0 ≤ ys.getD k 0 ∧ ys.getD k 0 ≤ 255 := by
    rw [List.getD_eq_getElem?_getD, List.getElem?_eq_getElem hk]; exact hr _ (List.getElem_mem _)
  rw [leN_take_succ ys k hk]
  exact le_or _ k _ (by omega) (leN_take_lt ys hr k (by omega)) hx.1 hx.2
theorem getD_rng {l : List Int} (h : ∀ y ∈ l, 0 ≤ y ∧ y ≤ 255) (i : Nat) : 0 ≤ l.getD i 0 ∧ l.getD i 0 ≤ 255 := by
  rw [List.getD_eq_getElem?_getD]
  by_cases hi : i < l.length
  · rw [List.getElem?_eq_getElem hi]; exact h _ (List.getElem_mem hi)
  · rw [List.getElem?_eq_none (by omega)]; exact ⟨Int.le_refl 0, by decide⟩
set_option maxHeartbeats 1600000 in
theorem pword (ys : List Int) (q : Option Addr) (c : Nat) (w : World) (hy : Lib.BytesIn w q ys.length ys) (hr : ∀ y ∈ ys, 0 ≤ y ∧ y ≤ 255) (h8 : ys.length ≤ 8) :
    Calls Try.prog 62 #[.slice q ys.length c] w fun e w' => e = .returned (.int .u64 ((leN ys : Nat) : Int)) ∧ w = w' := by
  have HY := Lib.hid hy
  have HR := Lib.hid hr
  have H8 := Lib.hid h8
  obtain ⟨N, hN⟩ : ∃ N, N = ys.length := ⟨_, rfl⟩
  rw [← hN] at HY h8 ⊢
  have HN := Lib.hid hN
  clear hy hr hN
  go_enter Try.func62, Try.ntmps62
  go_wp2
  go_loopg [3, 8] N (fun gh s i wx => ∃ k t : Nat, k ≤ N ∧ s = .int .u64 (t : Int) ∧ i = .int .i64 (k : Int) ∧ gh = N - k ∧ Hid (t = leN (ys.take k)) ∧ wx = w)
  case atStart => exact ⟨0, 0, Nat.zero_le _, rfl, rfl, rfl, by rw [List.take_zero]; rfl, rfl⟩
  case round =>
    obtain ⟨k, t, hk, rfl, rfl, hg, HT, hwx⟩ := hrel
    obtain rfl : w = wr := hwx.symm
    have HGK := Lib.hid hg
    clear hg
    by_cases hlt : k < N
    · obtain ⟨b, o, rfl, hc⟩ := HY.out.at (by omega)
      have cb := hc k hlt
      have hst := le_step ys HR.out k (by rw [← HN.out]; exact hlt) H8.out
      have hx := getD_rng HR.out k
      generalize ys.getD k 0 = x at *
      rw [← HT.out] at hst
      generalize hu : leN (ys.take (k + 1)) = u at *
      have HU := Lib.hid hu
      obtain ⟨hx0, hx1⟩ := hx
      have a2 : IntKind.i64.wrap (8 * (k : Int)) = 8 * (k : Int) := by rw [IntKind.wrap_i64]; omega
      have hux : IntKind.u64.wrap x = x := IntWalk.u64_in _ (by omega)
      clear hc hu
      go_wp2
      go_roundg (N - (k + 1))
      case measure => rw [HGK.out]; omega
      case rel => exact ⟨k + 1, u, hlt, rfl, rfl, rfl, HU.out.symm, rfl⟩
    · obtain rfl : k = N := by omega
      go_wp2
      go_ret
      refine ⟨congrArg (fun n : Nat => Ending.returned (.int .u64 (n : Int))) ?_, rfl⟩
      rw [HT.out, List.take_of_length_le (by rw [HN.out]; exact Nat.le_refl _)]
end Go.Proofs.Ytppcccocnmhbgaa
