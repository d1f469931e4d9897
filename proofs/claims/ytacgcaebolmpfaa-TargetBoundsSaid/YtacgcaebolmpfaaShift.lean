/- The walks of the program's shifts. -/
import Derived.Test.YtacgcaebolmpfaaRefShift
namespace Go.Proofs.Ytacgcaebolmpfaa
open Go.RowKit
set_option linter.unusedSimpArgs false

/-- word q + j of a number that is shifted up by 64 q + r bits -/
theorem left_word0 (a q r : Nat) (hr : r < 64) : IntKind.u64.wrap (wd a 0 * 2 ^ r) = wd (a * 2 ^ (64 * q + r)) q := by
  rw [wd_eq, wd_eq, IntKind.wrap_u64, show (wn a 0 : Int) * 2 ^ r = ((wn a 0 * 2 ^ r : Nat) : Int) from by simp]
  have : wn a 0 * 2 ^ r % 2 ^ 64 = wn (a * 2 ^ (64 * q + r)) q := by
    apply Nat.eq_of_testBit_eq; intro i
    rw [Nat.testBit_mod_two_pow, wn_bit, Nat.mul_comm, Nat.testBit_two_pow_mul, wn_bit, Nat.mul_comm a, Nat.testBit_two_pow_mul]
    by_cases hi : i < 64
    · by_cases h2 : r ≤ i
      · rw [decide_eq_true h2, decide_eq_true (show i - r < 64 by omega), decide_eq_true (show 64 * q + r ≤ 64 * q + i by omega), decide_eq_true hi]
        simp only [Bool.true_and]
        rw [show 64 * 0 + (i - r) = 64 * q + i - (64 * q + r) from by omega]
      · rw [decide_eq_false h2, decide_eq_false (show ¬ 64 * q + r ≤ 64 * q + i by omega)]; simp
    · rw [decide_eq_false hi]; simp
  omega
theorem left_word (a q r j : Nat) (hr : r < 64) : bits .or .u64 (IntKind.u64.wrap (wd a (j + 1) * 2 ^ r)) (wd a j / 2 ^ (64 - r)) = wd (a * 2 ^ (64 * q + r)) (q + (j + 1)) := by
  have e1 : IntKind.u64.wrap (wd a (j + 1) * 2 ^ r) = ((wn a (j + 1) * 2 ^ r % 2 ^ 64 : Nat) : Int) := by
    rw [wd_eq, IntKind.wrap_u64, show (wn a (j + 1) : Int) * 2 ^ r = ((wn a (j + 1) * 2 ^ r : Nat) : Int) from by simp]; omega
  have e2 : wd a j / 2 ^ (64 - r) = ((wn a j / 2 ^ (64 - r) : Nat) : Int) := by rw [wd_eq, Int.natCast_ediv, Int.natCast_pow]; rfl
  rw [e1, e2, or_u64 _ _ (Nat.mod_lt _ (by decide)) (Nat.lt_of_le_of_lt (Nat.div_le_self _ _) (wn_lt a j)), wd_eq]
  congr 1
  apply Nat.eq_of_testBit_eq; intro i
  rw [Nat.testBit_or, Nat.testBit_mod_two_pow, wn_bit, Nat.mul_comm, Nat.testBit_two_pow_mul, wn_bit, Nat.mul_comm a, Nat.testBit_two_pow_mul, Nat.testBit_div_two_pow, wn_bit]
  by_cases hi : i < 64
  · by_cases h2 : r ≤ i
    · rw [decide_eq_true h2, decide_eq_true (show i - r < 64 by omega), decide_eq_true (show 64 * q + r ≤ 64 * (q + (j + 1)) + i by omega), decide_eq_false (show ¬ i + (64 - r) < 64 by omega)]
      simp only [Bool.true_and, Bool.false_and, Bool.or_false]
      rw [show 64 * (j + 1) + (i - r) = 64 * (q + (j + 1)) + i - (64 * q + r) from by omega]
    · rw [decide_eq_false h2, decide_eq_true (show i + (64 - r) < 64 by omega), decide_eq_true (show 64 * q + r ≤ 64 * (q + (j + 1)) + i by omega), decide_eq_true hi]
      simp only [Bool.true_and, Bool.false_and, Bool.false_or]
      rw [show 64 * j + (i + (64 - r)) = 64 * (q + (j + 1)) + i - (64 * q + r) from by omega]
  · rw [decide_eq_false hi, decide_eq_false (show ¬ i + (64 - r) < 64 by omega)]; simp

theorem right_word3 (a q r k : Nat) (ha : a < W256) (h : k + q = 3) : wd a (k + q) / 2 ^ r = wd (a / 2 ^ (64 * q + r)) k := by
  rw [W256_eq] at ha
  rw [h, wd_eq, wd_eq, show (wn a 3 : Int) / 2 ^ r = ((wn a 3 / 2 ^ r : Nat) : Int) from by rw [Int.natCast_ediv, Int.natCast_pow]; rfl]
  congr 1
  apply Nat.eq_of_testBit_eq; intro i
  rw [Nat.testBit_div_two_pow, wn_bit, wn_bit, Nat.testBit_div_two_pow]
  by_cases hi : i + r < 64
  · rw [decide_eq_true hi, decide_eq_true (show i < 64 by omega)]
    rw [show 64 * 3 + (i + r) = 64 * k + i + (64 * q + r) from by omega]
  · rw [decide_eq_false hi]
    have : a.testBit (64 * k + i + (64 * q + r)) = false := Nat.testBit_lt_two_pow (Nat.lt_of_lt_of_le ha (Nat.pow_le_pow_right (by decide) (by omega)))
    rw [this]; simp
theorem right_word (a q r k : Nat) (hr : r < 64) : bits .or .u64 (wd a (k + q) / 2 ^ r) (IntKind.u64.wrap (wd a (k + q + 1) * 2 ^ (64 - r))) = wd (a / 2 ^ (64 * q + r)) k := by
  have e1 : IntKind.u64.wrap (wd a (k + q + 1) * 2 ^ (64 - r)) = ((wn a (k + q + 1) * 2 ^ (64 - r) % 2 ^ 64 : Nat) : Int) := by
    rw [wd_eq, IntKind.wrap_u64, show (wn a (k + q + 1) : Int) * 2 ^ (64 - r) = ((wn a (k + q + 1) * 2 ^ (64 - r) : Nat) : Int) from by simp]; omega
  have e2 : wd a (k + q) / 2 ^ r = ((wn a (k + q) / 2 ^ r : Nat) : Int) := by rw [wd_eq, Int.natCast_ediv, Int.natCast_pow]; rfl
  rw [e1, e2, or_u64 _ _ (Nat.lt_of_le_of_lt (Nat.div_le_self _ _) (wn_lt a _)) (Nat.mod_lt _ (by decide)), wd_eq]
  congr 1
  apply Nat.eq_of_testBit_eq; intro i
  rw [Nat.testBit_or, Nat.testBit_div_two_pow, wn_bit, Nat.testBit_mod_two_pow, Nat.mul_comm (wn a (k + q + 1)), Nat.testBit_two_pow_mul, wn_bit, wn_bit, Nat.testBit_div_two_pow]
  by_cases hi : i < 64
  · rw [decide_eq_true hi]
    by_cases h2 : i + r < 64
    · rw [decide_eq_true h2, decide_eq_false (show ¬ 64 - r ≤ i by omega)]
      simp only [Bool.true_and, Bool.false_and, Bool.or_false]
      rw [show 64 * (k + q) + (i + r) = 64 * k + i + (64 * q + r) from by omega]
    · rw [decide_eq_false h2, decide_eq_true (show 64 - r ≤ i by omega), decide_eq_true (show i - (64 - r) < 64 by omega)]
      simp only [Bool.true_and, Bool.false_and, Bool.false_or]
      rw [show 64 * (k + q + 1) + (i - (64 - r)) = 64 * k + i + (64 * q + r) from by omega]
  · rw [decide_eq_false hi, decide_eq_false (show ¬ i + r < 64 by omega)]; simp
theorem right_mod (a q r : Nat) (ha : a < W256) (hq : q ≤ 4) : a / 2 ^ (64 * q + r) % 2 ^ (64 * (4 - q)) = a / 2 ^ (64 * q + r) := by
  rw [W256_eq] at ha
  refine Nat.mod_eq_of_lt ?_
  rw [Nat.div_lt_iff_lt_mul (Nat.two_pow_pos _), ← Nat.pow_add]
  exact Nat.lt_of_lt_of_le ha (Nat.pow_le_pow_right (by decide) (by omega))

set_option maxRecDepth 100000 in
set_option maxHeartbeats 800000 in
theorem wleft (a : Nat) (n : Int) (w : World) :
    Calls Try.prog 25 #[wv a, .int .i64 n] w fun e w' => e = .returned (wv (a * 2 ^ clampN n % W256)) ∧ Below w.heap.size w w' := by
  have hcl := clampN_le n
  go_enter Try.func25, Try.ntmps25
  go_upto_region 2 with fail
  have L := St.new3' w (wcs a) (wcs 0) (wcs 0) 25 25 25
  rw [wc_zero] at L
  generalize ((w.alloc (.cells #[.int .u64 (wd a 0), .int .u64 (wd a 1), .int .u64 (wd a 2), .int .u64 (wd a 3)] 25)).alloc (.cells #[.int .u64 0, .int .u64 0, .int .u64 0, .int .u64 0] 25)).alloc (.cells #[.int .u64 0, .int .u64 0, .int .u64 0, .int .u64 0] 25) = v at *
  rw [← wc_zero] at L
  go_cut [1] (fun s1 wx => s1 = .int .i64 (clampN n : Int) ∧ wx = v)
  case first =>
    clear hcl
    go_wp2_with fail
    all_goals (go_meet; exact ⟨by unfold clampN; congr 1; omega, rfl⟩)
  case rest =>
    obtain ⟨rfl, rfl⟩ := hcut
    generalize hc : clampN n = c at *
    have HC := Lib.hid hc
    clear hc
    obtain ⟨q, r, hr, hcq⟩ : ∃ q r, r < 64 ∧ c = 64 * q + r := ⟨c / 64, c % 64, Nat.mod_lt _ (by decide), by omega⟩
    have hq4 : q ≤ 4 := by omega
    have i1 : (c : Int) / 64 = (q : Int) := by omega
    have i2 : (c : Int).tmod 64 = (r : Int) := by rw [Int.tmod_eq_emod_of_nonneg (by omega)]; omega
    have HCQ := Lib.hid hcq
    clear hcq
    go_wp2
    clear i1 i2
    have HM : St w.heap.size w wc [(w.heap.size + 1 + 1, wcs (a * 2 ^ (64 * q + r) % 2 ^ (64 * q)), 25), (w.heap.size + 1, wcs 0, 25), (w.heap.size, wcs a, 25)] := by
      rw [Nat.pow_add, Nat.mul_comm (2 ^ (64 * q)), ← Nat.mul_assoc, Nat.mul_mod_left]; exact L
    clear L
    go_loopg [8] (4 - q) (fun g i wr => ∃ k : Nat, q ≤ k ∧ k ≤ 4 ∧ g = 4 - k ∧ i = .int .i64 k ∧ St w.heap.size w wr [(w.heap.size + 1 + 1, wcs (a * 2 ^ (64 * q + r) % 2 ^ (64 * k)), 25), (w.heap.size + 1, wcs 0, 25), (w.heap.size, wcs a, 25)])
    case atStart => exact ⟨q, by omega, by omega, rfl, rfl, HM⟩
    case round =>
      clear HM
      obtain ⟨k, hk0, hk1, rfl, rfl, L⟩ := hrel
      by_cases hlt : k < 4
      · obtain ⟨ck2, ck1, ck0, l2, l1, l0⟩ := L.c3'
        have f2 := (L.at (b := w.heap.size + 1 + 1) (c := wcs (a * 2 ^ (64 * q + r) % 2 ^ (64 * k))) (t := 25) (by simp)).free
        have hnext : 4 - (k + 1) < 4 - k := by omega
        have kk0 : (0 : Int) ≤ (k : Int) := by omega
        have kk1 : (k : Int) < 4 := by omega
        by_cases hkq : k = q
        · subst hkq
          have ew := left_word0 a k r hr
          have L' := L.set (by omega) (by simp <;> omega) k (.int .u64 (wd (a * 2 ^ (64 * k + r)) k))
          rw [wc_step _ _ hlt] at L'
          have hgt : ¬ (k : Int) < (k : Int) := by omega
          go_wp2
          go_roundg (4 - (k + 1))
          case measure => omega
          case rel => exact ⟨k + 1, by omega, by omega, rfl, by go_num, L'⟩
        · obtain ⟨j, hj⟩ : ∃ j, q + (j + 1) = k := ⟨k - q - 1, by omega⟩
          have ew := left_word a q r j hr
          have L' := (L.set (by omega) (by simp <;> omega) k (.int .u64 (IntKind.u64.wrap (wd a (j + 1) * 2 ^ r)))).set (by omega) (by simp <;> omega) k (.int .u64 (wd (a * 2 ^ (64 * q + r)) k))
          rw [Array.setIfInBounds_setIfInBounds, wc_step _ _ hlt] at L'
          rw [hj] at ew
          have j1 : (k : Int) - (q : Int) = (j : Int) + 1 := by omega
          have j2 : (j : Int) + 1 - 1 = (j : Int) := by omega
          have hgt : (q : Int) < (k : Int) := by omega
          have g1 := wd_at a (j + 1) (by omega)
          have g2 := wd_at a j (by omega)
          have g3 := wd_get a (j + 1) (by omega)
          have g4 := wd_get a j (by omega)
          have h1 : (j : Int) + 1 < 4 := by omega
          have h2 : (j : Int) < 4 := by omega
          have r1 : (64 : Int) - (r : Int) = ((64 - r : Nat) : Int) := by omega
          clear hj hkq
          go_wp2
          go_region
          clear ew j1 j2 g1 g2 g3 g4 r1 ck2 ck1 ck0 f2
          go_wp2
          go_roundg (4 - (k + 1))
          case measure => omega
          case rel => exact ⟨k + 1, by omega, by omega, rfl, by go_num, L'.drew⟩
      · obtain rfl : k = 4 := by omega
        rw [show (64 * 4) = 256 from rfl, ← W256_eq] at L
        obtain ⟨ck2, ck1, ck0, l2, l1, l0⟩ := L.c3'
        have f1 := (L.at (b := w.heap.size + 1) (c := wcs 0) (t := 25) (by simp)).free
        rw [wc_zero] at ck1
        go_wp2
        exact bodyPost_ret (v := wv (a * 2 ^ (64 * q + r) % W256)) (by simp [results, Try.results25, go_sem, ck1]) rfl ⟨by rw [HC.out, HCQ.out], below_put L.below (by omega)⟩

set_option maxRecDepth 100000 in
set_option maxHeartbeats 800000 in
theorem wright (a : Nat) (n : Int) (w : World) (ha : a < W256) :
    Calls Try.prog 23 #[wv a, .int .i64 n] w fun e w' => e = .returned (wv (a / 2 ^ clampN n)) ∧ Below w.heap.size w w' := by
  have hcl := clampN_le n
  go_enter Try.func23, Try.ntmps23
  go_upto_region 2 with fail
  have L := St.new3' w (wcs a) (wcs 0) (wcs 0) 25 25 25
  rw [wc_zero] at L
  generalize ((w.alloc (.cells #[.int .u64 (wd a 0), .int .u64 (wd a 1), .int .u64 (wd a 2), .int .u64 (wd a 3)] 25)).alloc (.cells #[.int .u64 0, .int .u64 0, .int .u64 0, .int .u64 0] 25)).alloc (.cells #[.int .u64 0, .int .u64 0, .int .u64 0, .int .u64 0] 25) = v at *
  rw [← wc_zero] at L
  go_cut [1] (fun s1 wx => s1 = .int .i64 (clampN n : Int) ∧ wx = v)
  case first =>
    clear hcl
    go_wp2_with fail
    all_goals (go_meet; exact ⟨by unfold clampN; congr 1; omega, rfl⟩)
  case rest =>
    obtain ⟨rfl, rfl⟩ := hcut
    generalize hc : clampN n = c at *
    have HC := Lib.hid hc
    clear hc
    obtain ⟨q, r, hr, hcq⟩ : ∃ q r, r < 64 ∧ c = 64 * q + r := ⟨c / 64, c % 64, Nat.mod_lt _ (by decide), by omega⟩
    have hq4 : q ≤ 4 := by omega
    have i1 : (c : Int) / 64 = (q : Int) := by omega
    have i2 : (c : Int).tmod 64 = (r : Int) := by rw [Int.tmod_eq_emod_of_nonneg (by omega)]; omega
    have HCQ := Lib.hid hcq
    clear hcq
    go_wp2
    clear i1 i2
    go_loopg [8] (4 - q) (fun g i wr => ∃ k : Nat, k ≤ 4 - q ∧ g = 4 - q - k ∧ i = .int .i64 k ∧ St w.heap.size w wr [(w.heap.size + 1 + 1, wcs (a / 2 ^ (64 * q + r) % 2 ^ (64 * k)), 25), (w.heap.size + 1, wcs 0, 25), (w.heap.size, wcs a, 25)])
    case atStart => exact ⟨0, by omega, rfl, rfl, by rw [Nat.mul_zero, Nat.pow_zero, Nat.mod_one]; exact L⟩
    case round =>
      clear L
      obtain ⟨k, hk1, rfl, rfl, L⟩ := hrel
      by_cases hlt : k + q < 4
      · obtain ⟨ck2, ck1, ck0, l2, l1, l0⟩ := L.c3'
        have f2 := (L.at (b := w.heap.size + 1 + 1) (c := wcs (a / 2 ^ (64 * q + r) % 2 ^ (64 * k))) (t := 25) (by simp)).free
        have hnext : 4 - q - (k + 1) < 4 - q - k := by omega
        have kk0 : (0 : Int) ≤ (k : Int) := by omega
        have kk1 : (k : Int) < 4 := by omega
        have hli : (k : Int) + (q : Int) < 4 := by omega
        have hk4 : k < 4 := by omega
        have g1 := wd_at a (k + q) hlt
        have g3 := wd_get a (k + q) hlt
        by_cases hkq : k + q = 3
        · have ew := right_word3 a q r k ha hkq
          have L' := L.set (by omega) (by simp <;> omega) k (.int .u64 (wd (a / 2 ^ (64 * q + r)) k))
          rw [wc_step _ _ (show k < 4 by omega)] at L'
          have hgt : ¬ (k : Int) + (q : Int) < 3 := by omega
          clear hkq hlt
          go_wp2
          go_roundg (4 - q - (k + 1))
          case measure => omega
          case rel => exact ⟨k + 1, by omega, rfl, by go_num, L'⟩
        · have ew := right_word a q r k hr
          have L' := (L.set (by omega) (by simp <;> omega) k (.int .u64 (wd a (k + q) / 2 ^ r))).set (by omega) (by simp <;> omega) k (.int .u64 (wd (a / 2 ^ (64 * q + r)) k))
          rw [Array.setIfInBounds_setIfInBounds, wc_step _ _ (show k < 4 by omega)] at L'
          have hgt : (k : Int) + (q : Int) < 3 := by omega
          have hgt1 : (k : Int) + (q : Int) + 1 < 4 := by omega
          have g2 := wd_at a (k + q + 1) (by omega)
          have g4 := wd_get a (k + q + 1) (by omega)
          have r1 : (64 : Int) - (r : Int) = ((64 - r : Nat) : Int) := by omega
          have hk' : k < 4 - q := by omega
          clear hkq hlt
          go_wp2
          go_region
          clear ew g1 g2 g3 g4 r1 ck2 ck1 ck0 f2
          go_wp2
          go_roundg (4 - q - (k + 1))
          case measure => omega
          case rel => exact ⟨k + 1, by omega, rfl, by go_num, L'.drew⟩
      · obtain rfl : k = 4 - q := by omega
        rw [right_mod a q r ha hq4] at L
        obtain ⟨ck2, ck1, ck0, l2, l1, l0⟩ := L.c3'
        have f1 := (L.at (b := w.heap.size + 1) (c := wcs 0) (t := 25) (by simp)).free
        rw [wc_zero] at ck1
        have hge : ¬ (((4 - q : Nat) : Int) + (q : Int) < 4) := by omega
        go_wp2
        exact bodyPost_ret (v := wv (a / 2 ^ (64 * q + r))) (by simp [results, Try.results23, go_sem, ck1]) rfl ⟨by rw [HC.out, HCQ.out], below_put L.below (by omega)⟩
end Go.Proofs.Ytacgcaebolmpfaa
