/- The walks of Bits, the program's and the reference's. -/
import Derived.Test.YtacgcaebolmpfaaWideRefB
import Derived.Test.YtacgcaebolmpfaaRegion
import Derived.Test.YtacgcaebolmpfaaShelf
import Derived.Deep.LoopGhost
namespace Go.Proofs.Ytacgcaebolmpfaa
open Go.RowKit
set_option linter.unusedSimpArgs false

/-- how many bits a number has -/
def blen (n : Nat) : Nat := if n = 0 then 0 else Nat.log2 n + 1
theorem blen_le (n k : Nat) : blen n ≤ k ↔ n < 2 ^ k := by
  unfold blen
  by_cases h : n = 0
  · subst h; simp [Nat.two_pow_pos]
  · rw [if_neg h, ← Nat.log2_lt h]; omega
theorem blen_zero : blen 0 = 0 := rfl
theorem blen_ext {n m : Nat} (h : ∀ k, n < 2 ^ k ↔ k ≥ m) : blen n = m := by
  have h1 := (blen_le n m).2 ((h m).2 (Nat.le_refl _))
  have h2 := (h (blen n)).1 ((blen_le n (blen n)).1 (Nat.le_refl _))
  omega
theorem blen_div (n k : Nat) (h : 0 < n / 2 ^ k) : blen n = k + blen (n / 2 ^ k) := by
  apply blen_ext
  intro m
  have hn : 2 ^ k ≤ n := by
    rcases Nat.lt_or_ge n (2 ^ k) with h' | h'
    · rw [Nat.div_eq_of_lt h'] at h; omega
    · exact h'
  by_cases hm : k ≤ m
  · have e : 2 ^ m = 2 ^ (m - k) * 2 ^ k := by rw [← Nat.pow_add]; congr 1; omega
    rw [e, ← Nat.div_lt_iff_lt_mul (Nat.two_pow_pos k), ← blen_le]
    omega
  · constructor
    · intro h'
      have := Nat.pow_le_pow_right (n := 2) (by decide) (show m ≤ k by omega)
      omega
    · intro h'; omega
theorem blen_lt (n k : Nat) (h : n < 2 ^ k) : blen n ≤ k := (blen_le n k).2 h
theorem blen_half (n : Nat) (h : n ≠ 0) : blen n = 1 + blen (n / 2) := by
  by_cases h1 : n = 1
  · subst h1; rfl
  · have := blen_div n 1 (by omega)
    simpa using this
theorem bitLenAux_eq : ∀ (f n : Nat), n < 2 ^ f → Lib.bitLenAux f n = blen n
  | 0, n, h => by
    have : n = 0 := by simpa using h
    subst this; rfl
  | f + 1, n, h => by
    unfold Lib.bitLenAux
    by_cases hn : n = 0
    · subst hn; rfl
    · rw [if_neg hn, bitLenAux_eq f (n / 2) (by rw [Nat.pow_succ] at h; omega), blen_half n hn]

theorem len64 (n k : Nat) (w : World) : Calls Try.prog 39 #[.int .u64 (wd n k)] w fun e w' => e = .returned (.int .i64 (blen (wn n k) : Int)) ∧ w = w' := by
  have h := wn_lt n k
  refine (Try.bits_Len64 (wd n k) w (wd_range n k).1 (by rw [wd_eq]; omega)).mono fun e w' ⟨he, hw⟩ => ⟨?_, hw.symm⟩
  rw [he, wd_eq, Int.toNat_natCast]
  unfold Lib.bitLen
  rw [bitLenAux_eq 64 _ h]
theorem wn_div (n k : Nat) (h : n < 2 ^ (64 * (k + 1))) : wn n k = n / 2 ^ (64 * k) := by
  unfold wn
  refine Nat.mod_eq_of_lt ?_
  rw [Nat.div_lt_iff_lt_mul (Nat.two_pow_pos _), ← Nat.pow_add]
  rw [show 64 + 64 * k = 64 * (k + 1) from by omega]; exact h
theorem wd_pos (n k : Nat) : (0 < wd n k) ↔ 0 < wn n k := by rw [wd_eq]; omega
theorem lt_of_word (n k : Nat) (h : n < 2 ^ (64 * (k + 1))) (hz : ¬ 0 < wd n k) : n < 2 ^ (64 * k) := by
  rw [wd_pos, wn_div n k h] at hz
  rcases Nat.lt_or_ge n (2 ^ (64 * k)) with h' | h'
  · exact h'
  · exact absurd (Nat.div_pos h' (Nat.two_pow_pos _)) hz
theorem blen_word (n k : Nat) (h : n < 2 ^ (64 * (k + 1))) (hz : 0 < wd n k) : ((64 * k : Nat) : Int) + (blen (wn n k) : Int) = (blen n : Int) := by
  rw [wd_pos, wn_div n k h] at hz
  rw [wn_div n k h, blen_div n (64 * k) hz]; omega

set_option maxHeartbeats 800000 in
theorem wbits (a : Nat) (w : World) (ha : a < W256) : Calls Try.prog 24 #[wv a] w fun e w' => e = .returned (.int .i64 (blen a : Int)) ∧ Below w.heap.size w w' := by
  rw [W256_eq] at ha
  have b3 := blen_lt _ _ (wn_lt a 3)
  have b2 := blen_lt _ _ (wn_lt a 2)
  have b1 := blen_lt _ _ (wn_lt a 1)
  have b0 := blen_lt _ _ (wn_lt a 0)
  by_cases h3 : 0 < wd a 3
  · have e : (192 : Int) + (blen (wn a 3) : Int) = (blen a : Int) := blen_word a 3 ha h3
    have E := Lib.hid e
    clear e ha
    go_enter Try.func24, Try.ntmps24
    go_wp2_with (go_at_call 39; refine (len64 _ _ _).mono ?_; rintro e w' ⟨rfl, rfl⟩)
    go_ret
    exact ⟨by rw [← E.out]; rfl, (Below.refl _ _).alloc (Nat.le_refl _) _⟩
  · have ha2 := lt_of_word a 3 ha h3
    by_cases h2 : 0 < wd a 2
    · have e : (128 : Int) + (blen (wn a 2) : Int) = (blen a : Int) := blen_word a 2 ha2 h2
      have E := Lib.hid e
      clear e ha ha2
      go_enter Try.func24, Try.ntmps24
      go_wp2_with (go_at_call 39; refine (len64 _ _ _).mono ?_; rintro e w' ⟨rfl, rfl⟩)
      go_ret
      exact ⟨by rw [← E.out]; rfl, (Below.refl _ _).alloc (Nat.le_refl _) _⟩
    · have ha1 := lt_of_word a 2 ha2 h2
      by_cases h1 : 0 < wd a 1
      · have e : (64 : Int) + (blen (wn a 1) : Int) = (blen a : Int) := blen_word a 1 ha1 h1
        have E := Lib.hid e
        clear e ha ha2 ha1
        go_enter Try.func24, Try.ntmps24
        go_wp2_with (go_at_call 39; refine (len64 _ _ _).mono ?_; rintro e w' ⟨rfl, rfl⟩)
        go_ret
        exact ⟨by rw [← E.out]; rfl, (Below.refl _ _).alloc (Nat.le_refl _) _⟩
      · have ha0 := lt_of_word a 1 ha1 h1
        have e : (blen (wn a 0) : Int) = (blen a : Int) := by rw [wn_div a 0 ha0]; simp
        have E := Lib.hid e
        clear e ha ha2 ha1 ha0
        go_enter Try.func24, Try.ntmps24
        go_wp2_with (go_at_call 39; refine (len64 _ _ _).mono ?_; rintro e w' ⟨rfl, rfl⟩)
        go_ret
        exact ⟨by rw [← E.out]; rfl, (Below.refl _ _).alloc (Nat.le_refl _) _⟩

theorem bits_yes (a k : Nat) (h : a < 2 ^ (k + 1)) (hb : bt a k = 1) : blen a = k + 1 := by
  have h1 : 0 < a / 2 ^ k := by unfold bt at hb; generalize a / 2 ^ k = q at *; omega
  rw [blen_div a k h1]
  have h2 : a / 2 ^ k < 2 := by rw [Nat.div_lt_iff_lt_mul (Nat.two_pow_pos k)]; rw [Nat.pow_succ] at h; omega
  rw [show a / 2 ^ k = 1 from by omega]; rfl
theorem bits_no (a k : Nat) (h : a < 2 ^ (k + 1)) (hb : ¬ bt a k = 1) : a < 2 ^ k := by
  have hr := bt_range a k
  have h2 : a / 2 ^ k < 2 := by rw [Nat.div_lt_iff_lt_mul (Nat.two_pow_pos k)]; rw [Nat.pow_succ] at h; omega
  have h3 : a / 2 ^ k = 0 := by unfold bt at hb hr; generalize a / 2 ^ k = q at *; omega
  rcases Nat.lt_or_ge a (2 ^ k) with h' | h'
  · exact h'
  · have := Nat.div_pos h' (Nat.two_pow_pos k); omega

set_option maxHeartbeats 800000 in
theorem rbits (a : Nat) (w : World) (ha : a < W256) : Calls Try.prog 15 #[wv a] w fun e w' => e = .returned (.int .i64 (blen a : Int)) ∧ Below w.heap.size w w' := by
  rw [W256_eq] at ha
  have HA := Lib.hid ha
  clear ha
  go_enter Try.func15, Try.ntmps15
  go_wp2
  go_loopw [3] (fun i wr => ∃ k : Nat, k ≤ 256 ∧ i = .int .i64 ((k : Int) - 1) ∧ Hid (a < 2 ^ k) ∧ St w.heap.size w wr [(w.heap.size, wcs a, 25)]) (fun i _ => (intOf i + 1).toNat)
  case atStart => exact ⟨256, by omega, rfl, HA, (St.refl w).new (wcs a) _⟩
  case round =>
    obtain ⟨k, hk, rfl, HK, L⟩ := hrel
    have c0 := (L.at (b := w.heap.size) (c := wcs a) (t := 25) (by simp)).cell
    by_cases hz : k = 0
    · subst hz
      go_wp2
      go_ret
      exact ⟨by rw [show a = 0 from by simpa using HK.out]; rfl, L.below⟩
    · obtain ⟨j, rfl⟩ : ∃ j, k = j + 1 := ⟨k - 1, by omega⟩
      have ej : ((j + 1 : Nat) : Int) - 1 = (j : Int) := by omega
      rw [ej]
      clear ej hz
      have hlt : j < 256 := by omega
      by_cases hb : bt a j = 1
      · have e := bits_yes a j HK.out hb
        have E := Lib.hid e
        have hb1 : (bt a j == 1) = true := by simpa using hb
        clear e hb
        go_wp2_with (go_at_call 28; refine (rbit a j _ hlt).mono ?_; rintro e w' ⟨rfl, hw'⟩)
        go_ret
        exact ⟨by rw [E.out]; rfl, (L.call hw').below⟩
      · have HN := Lib.hid (bits_no a j HK.out hb)
        have hb0 : (bt a j == 1) = false := by simpa using hb
        clear hb
        go_wp2_with (go_at_call 28; refine (rbit a j _ hlt).mono ?_; rintro e w' ⟨rfl, hw'⟩)
        go_roundw
        case rel => exact ⟨j, by omega, rfl, HN, L.call hw'⟩
        case measure => simp [intOf]
end Go.Proofs.Ytacgcaebolmpfaa
