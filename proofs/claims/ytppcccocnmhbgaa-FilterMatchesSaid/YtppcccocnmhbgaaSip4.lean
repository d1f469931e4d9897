/- The high half of a product: the program's, and the document's, bit by bit. -/
import Derived.Test.YtppcccocnmhbgaaSip2
namespace Go.Proofs.Ytppcccocnmhbgaa
open Go Go.RowKit
set_option linter.unusedSimpArgs false
set_option linter.unusedVariables false
set_option maxRecDepth 100000

theorem pscale (x n : Nat) (hx : x < 18446744073709551616) (hn : n < 18446744073709551616) (w : World) :
    Calls Try.prog 64 #[.int .u64 (x : Int), .int .u64 (n : Int)] w fun e w' => e = .returned (.int .u64 ((x * n / 18446744073709551616 : Nat) : Int)) ∧ w' = w := by
  have P := Lib.hid (Try.bits_Mul64 x n hx hn w)
  clear hx hn
  go_enter Try.func64, Try.ntmps64
  go_wp2_with fail
  refine P.out.mono ?_
  rintro e w1 ⟨rfl, rfl⟩
  go_wp2
  go_ret
  exact ⟨rfl, rfl⟩
theorem or_carry (h l : Nat) (hh : h < 2 ^ 63) (hl : l < 2 ^ 64) : bits .or .u64 (IntKind.u64.wrap ((h : Int) * 2)) ((l : Int) / 9223372036854775808) = ((2 * h + l / 2 ^ 63 : Nat) : Int) := by
  have e1 : IntKind.u64.wrap ((h : Int) * 2) = ((2 * h : Nat) : Int) := by rw [IntKind.wrap_u64]; omega
  have e2 : (l : Int) / 9223372036854775808 = ((l / 2 ^ 63 : Nat) : Int) := by omega
  rw [e1, e2, show bits .or .u64 ((2 * h : Nat) : Int) ((l / 2 ^ 63 : Nat) : Int) = ((2 * h ||| l / 2 ^ 63 : Nat) : Int) from u64_or_nat _ _ (by omega) (by omega)]
  congr 1
  exact (Nat.two_pow_add_eq_or_of_lt (i := 1) (b := l / 2 ^ 63) (by omega) h).symm
theorem scale_step (A n h l P : Nat) (hP : P = 2 ^ 64) (hA : 2 * A < P) (hn : n < P) (hl : l < P) (e : h * P + l = A * n) :
    2 * h < P ∧ (2 * h + 2 * l / P) * P + 2 * l % P = 2 * A * n := by
  have h0 : 0 < P := by rw [hP]; exact Nat.two_pow_pos _
  have h2 : 2 * A * n < P * P := Nat.mul_lt_mul'' hA hn
  rw [Nat.mul_assoc, ← e, Nat.mul_add] at h2
  constructor
  · have : 2 * (h * P) < P * P := by omega
    rw [← Nat.mul_assoc] at this
    exact Nat.lt_of_mul_lt_mul_right this
  · have := Nat.div_add_mod (2 * l) P
    rw [Nat.add_mul, Nat.mul_assoc 2 A n, ← e, Nat.mul_add, Nat.mul_assoc, Nat.mul_comm (2 * l / P) P]
    omega
theorem scale_add (B n h l P : Nat) (h0 : 0 < P) (hB : B < P) (hn : n < P) (hl : l < P) (hh : h * P + l + n = B * n) (hBP : h + 1 ≤ P) :
    (h + (l + n) / P) * P + (l + n) % P = B * n := by
  have := Nat.div_add_mod (l + n) P
  rw [Nat.add_mul, Nat.mul_comm ((l + n) / P) P]
  omega
theorem scale_bit (x k : Nat) : x / 2 ^ k = 2 * (x / 2 ^ (k + 1)) + x / 2 ^ k % 2 := by
  rw [Nat.pow_succ, ← Nat.div_div_eq_div_mul]; omega
set_option maxHeartbeats 1600000 in
theorem rscale (x n : Nat) (hx : x < 18446744073709551616) (hn : n < 18446744073709551616) (w : World) :
    Calls Try.prog 72 #[.int .u64 (x : Int), .int .u64 (n : Int)] w fun e w' => e = .returned (.int .u64 ((x * n / 18446744073709551616 : Nat) : Int)) ∧ w' = w := by
  have HX := Lib.hid (And.intro hx hn)
  clear hx
  go_enter Try.func72, Try.ntmps72
  go_wp2
  go_loopg [5, 6, 7] 64 (fun gh hi lo i wx => ∃ (k h l : Nat), k ≤ 64 ∧ h < 18446744073709551616 ∧ l < 18446744073709551616 ∧ hi = .int .u64 (h : Int) ∧ lo = .int .u64 (l : Int) ∧ i = .int .i64 ((k : Int) - 1) ∧ gh = k ∧ Hid (h * 2 ^ 64 + l = x / 2 ^ k * n) ∧ wx = w)
  case atStart => exact ⟨64, 0, 0, Nat.le_refl _, by decide, by decide, rfl, rfl, rfl, rfl, Lib.hid (by rw [Nat.div_eq_of_lt (show x < 2 ^ 64 from HX.out.1)]; simp), rfl⟩
  case round =>
    obtain ⟨k, h, l, hk, hh, hl, rfl, rfl, rfl, hg, HR, hwx⟩ := hrel
    obtain rfl : w = wr := hwx.symm
    have HG := Lib.hid hg
    clear hg
    by_cases hlt : 0 < k
    · obtain ⟨j, hj⟩ : ∃ j, j + 1 = k := ⟨k - 1, by omega⟩
      have hjk : (k : Int) - 1 = (j : Int) := by omega
      rw [hjk]
      have HK := Lib.hid (And.intro hj hjk)
      obtain ⟨A, hA⟩ : ∃ A, A = x / 2 ^ (j + 1) := ⟨_, rfl⟩
      obtain ⟨B, hB⟩ : ∃ B, B = x / 2 ^ j := ⟨_, rfl⟩
      have hAB : B = 2 * A + B % 2 := by rw [hA, hB]; exact scale_bit x j
      rw [← hj, ← hA] at HR
      have hBP : B < 18446744073709551616 := by rw [hB]; exact Nat.lt_of_le_of_lt (Nat.div_le_self _ _) HX.out.1
      obtain ⟨s1, s2⟩ := scale_step A n h l 18446744073709551616 rfl (by omega) hn hl HR
      have hor := or_carry h l (by omega) hl
      obtain ⟨h2, hh2⟩ : ∃ h2, h2 = 2 * h + l / 2 ^ 63 := ⟨_, rfl⟩
      obtain ⟨l2, hl2⟩ : ∃ l2, l2 = 2 * l % 18446744073709551616 := ⟨_, rfl⟩
      rw [← hh2] at hor
      have hll : 2 * l / 18446744073709551616 = l / 2 ^ 63 := by omega
      rw [hll, ← hh2, ← hl2] at s2
      have hw2 : IntKind.u64.wrap ((l : Int) * 2) = (l2 : Int) := by rw [IntKind.wrap_u64]; omega
      have b2 : h2 < 18446744073709551616 := by omega
      have b3 : l2 < 18446744073709551616 := by omega
      have hand : bits .and .u64 ((x : Int) / 2 ^ j) 1 = ((B % 2 : Nat) : Int) := by
        rw [show (x : Int) / 2 ^ j = (B : Int) from by rw [hB]; simp]; exact and1 B hBP
      have hjw : IntKind.i64.wrap ((j : Int) - 1) = (j : Int) - 1 := by rw [IntKind.wrap_i64]; omega
      have HS := Lib.hid (And.intro s2 hAB)
      have HBB := Lib.hid hB
      have hj64 : j ≤ 64 := by omega
      clear s1 s2 hh2 hl2 hll hA hB hAB hj hjk HR
      rcases (by omega : B % 2 = 0 ∨ B % 2 = 1) with hb | hb
      · have hand0 : bits .and .u64 ((x : Int) / 2 ^ j) 1 = 0 := by rw [hand, hb]; rfl
        have HB := Lib.hid hb
        clear hb hand
        go_wp2
        go_roundg j
        case measure => rw [HG.out]; have := HK.out.1; omega
        case rel => exact ⟨j, h2, l2, hj64, b2, b3, rfl, rfl, rfl, rfl, Lib.hid (by rw [← HBB.out, HS.out.2, HB.out, Nat.add_zero]; exact HS.out.1), rfl⟩
      · have hand0 : bits .and .u64 ((x : Int) / 2 ^ j) 1 = 1 := by rw [hand, hb]; rfl
        have hBn : h2 * 18446744073709551616 + l2 + n = B * n := by rw [HS.out.2, hb, Nat.add_mul, Nat.one_mul, HS.out.1]
        have hsum := scale_add B n h2 l2 18446744073709551616 (by decide) hBP hn b3 hBn (by omega)
        have hbig : B * n < 18446744073709551616 * 18446744073709551616 := Nat.mul_lt_mul'' hBP hn
        obtain ⟨r, hr⟩ : ∃ r, r = (l2 + n) % 18446744073709551616 := ⟨_, rfl⟩
        obtain ⟨q, hq⟩ : ∃ q, q = (l2 + n) / 18446744073709551616 := ⟨_, rfl⟩
        rw [← hr, ← hq] at hsum
        have hwr : IntKind.u64.wrap ((l2 : Int) + (n : Int)) = (r : Int) := by rw [IntKind.wrap_u64]; omega
        have b4 : r < 18446744073709551616 := by omega
        have hq2 : h2 + q < 18446744073709551616 := by omega
        have HSUM := Lib.hid hsum
        rcases (by omega : (q = 0 ∧ ¬ r < n) ∨ (q = 1 ∧ r < n)) with ⟨h0, h1⟩ | ⟨h0, h1⟩
        · subst h0
          have d1 : ¬ ((r : Int) < (n : Int)) := by omega
          clear hb hand hBn hsum hbig hr hq h1
          go_wp2
          go_roundg j
          case measure => rw [HG.out]; have := HK.out.1; omega
          case rel => exact ⟨j, h2, r, hj64, b2, b4, rfl, rfl, rfl, rfl, Lib.hid (by have := HSUM.out; rw [Nat.add_zero] at this; rw [← HBB.out]; exact this), rfl⟩
        · subst h0
          have d1 : (r : Int) < (n : Int) := by omega
          have hw1 : IntKind.u64.wrap ((h2 : Int) + 1) = ((h2 + 1 : Nat) : Int) := by rw [IntKind.wrap_u64]; omega
          clear hb hand hBn hsum hbig hr hq h1
          go_wp2
          go_roundg j
          case measure => rw [HG.out]; have := HK.out.1; omega
          case rel => exact ⟨j, h2 + 1, r, hj64, hq2, b4, rfl, rfl, rfl, rfl, Lib.hid (by rw [← HBB.out]; exact HSUM.out), rfl⟩
    · obtain rfl : k = 0 := by omega
      have HE : Hid (h = x * n / 18446744073709551616) := Lib.hid (by
        have := HR.out
        rw [Nat.pow_zero, Nat.div_one] at this
        rw [← this, Nat.mul_comm h]
        omega)
      go_wp2
      go_ret
      exact ⟨congrArg (fun n : Nat => Ending.returned (.int .u64 (n : Int))) HE.out, rfl⟩
end Go.Proofs.Ytppcccocnmhbgaa
