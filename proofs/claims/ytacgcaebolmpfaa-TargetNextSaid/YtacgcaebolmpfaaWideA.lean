/- The walks of the program's numbers. -/
import Derived.Test.YtacgcaebolmpfaaRows
import Derived.Test.YtacgcaebolmpfaaWideBase
import Derived.Shelf.Spec.BitsCarry
namespace Go.Proofs.Ytacgcaebolmpfaa
open Go.RowKit

theorem add64 (a b k : Nat) (w : World) : (callFunc 42 #[.int .u64 (wd a k), .int .u64 (wd b k), .int .u64 (ac a b (64 * k))]).run Try.prog w =
    .ok (.value (.tuple #[.int .u64 (wd (a + b) k), .int .u64 (ac a b (64 * (k + 1)))])) w := by
  have h := ac_range a b (64 * k)
  unfold ac at h
  rw [wd_eq, wd_eq, ac]
  rw [run_callFunc_extern Try.func42 (by kernel_rfl) (by kernel_rfl) (by kernel_rfl) (e := add64Entry) (by kernel_rfl), run_add64 _ _ _ (by have := wn_lt a k; omega) (by have := wn_lt b k; omega) (by omega) (by omega)]
  simp only [Result.andThen]
  have e1 := wn_add a b k
  have e2 := wn_carry a b k
  rw [wd_eq, ac, ← e1, ← e2]
  congr 5 <;> omega

set_option maxRecDepth 100000 in
set_option maxHeartbeats 400000 in
theorem wadd (a b : Nat) (w : World) (ha : a < W256) (hb : b < W256) :
    Calls Try.prog 32 #[wv a, wv b] w fun e w' => e = .returned (.tuple #[wv ((a + b) % W256), .bool (decide (W256 ≤ a + b))]) ∧ Below w.heap.size w w' := by
  go_enter Try.func32, Try.ntmps32
  go_wp2
  go_loopw [7, 9] (fun c i wr => ∃ k : Nat, k ≤ 4 ∧ i = .int .i64 k ∧ c = .int .u64 (ac a b (64 * k)) ∧ Blk wr w.heap.size (wcs a) 25 ∧ Blk wr (w.heap.size + 1) (wcs b) 25 ∧ Blk wr (w.heap.size + 1 + 1) (wcs 0) 25 ∧ Blk wr (w.heap.size + 1 + 1 + 1) (wcs ((a + b) % 2 ^ (64 * k))) 25 ∧ Below w.heap.size w wr) (fun _ i _ => 4 - (intOf i).toNat)
  case atStart =>
    refine ⟨0, by omega, rfl, by rw [Nat.mul_zero, ac_zero], Blk.w4_0 _ _ _ _ _ _, Blk.w4_1 _ _ _ _ _ _, ?_, ?_, ?_⟩
    · rw [wc_zero]; exact Blk.w4_2 _ _ _ _ _ _
    · rw [Nat.mul_zero, Nat.pow_zero, Nat.mod_one, wc_zero]; exact Blk.w4_3 _ _ _ _ _ _
    · exact ((((Below.refl _ _).alloc (Nat.le_refl _) _).alloc (by simp) _).alloc (by simp; omega) _).alloc (by simp; omega) _
  case round =>
    obtain ⟨k, hk, rfl, rfl, H0, H1, H2, H3, HB⟩ := hrel
    by_cases hlt : k < 4
    · have c0 := H0.cell
      have c1 := H1.cell
      have c3 := H3.cell
      have f3 := H3.free
      have ha64 := add64 a b k
      have g0 := wd_at a k hlt
      have g1 := wd_at b k hlt
      go_wp2
      go_region
      replace H0 := H0.setFar (a := ⟨w.heap.size + 1 + 1 + 1, k, none⟩) (by dsimp only; omega) (.int .u64 (wd (a + b) k))
      replace H1 := H1.setFar (a := ⟨w.heap.size + 1 + 1 + 1, k, none⟩) (by dsimp only; omega) (.int .u64 (wd (a + b) k))
      replace H2 := H2.setFar (a := ⟨w.heap.size + 1 + 1 + 1, k, none⟩) (by dsimp only; omega) (.int .u64 (wd (a + b) k))
      replace H3 := H3.set k (.int .u64 (wd (a + b) k))
      rw [wc_step _ _ hlt] at H3
      replace HB := HB.setCell (p := ⟨w.heap.size + 1 + 1 + 1, k, none⟩) (by dsimp only; omega) (.int .u64 (wd (a + b) k))
      clear c0 c1 c3 f3 ha64 g0 g1
      go_wp2
      go_roundw
      case rel => exact ⟨k + 1, by omega, by go_num, rfl, H0.drew, H1.drew, H2.drew, H3.drew, HB.drew⟩
      case measure => simp [intOf]; omega
    · obtain rfl : k = 4 := by omega
      rw [show (64 * 4) = 256 from rfl, ← W256_eq] at *
      have c3 := H3.cell
      have c2 := H2.cell
      have f2 := H2.free
      have ea := ac_end' a b ha hb
      rw [wc_zero] at c2
      go_wp2
      exact bodyPost_ret (v := .tuple #[wv ((a + b) % W256), .bool (decide (W256 ≤ a + b))]) (by simp [results, Try.results32, go_sem, c2]) rfl
        ⟨rfl, (((HB.setCell (by dsimp only; omega) _).setCell (by dsimp only; omega) _).setCell (by dsimp only; omega) _).setCell (by dsimp only; omega) _⟩
theorem sub64 (a b k : Nat) (hb : b < W256) (hk : k < 4) (w : World) : (callFunc 47 #[.int .u64 (wd a k), .int .u64 (wd b k), .int .u64 (ac (a + W256 - b) b (64 * k))]).run Try.prog w =
    .ok (.value (.tuple #[.int .u64 (wd (a + W256 - b) k), .int .u64 (ac (a + W256 - b) b (64 * (k + 1)))])) w := by
  rw [W256_eq] at *
  obtain ⟨e1, e2⟩ := wn_sub a b k hb hk
  have h := ac_range (a + 2 ^ 256 - b) b (64 * k)
  unfold ac at h
  rw [wd_eq, wd_eq, wd_eq, ac, ac, ← e1, ← e2]
  rw [run_callFunc_extern Try.func47 (by kernel_rfl) (by kernel_rfl) (by kernel_rfl) (e := sub64Entry) (by kernel_rfl), run_sub64 _ _ _ (by omega)]
  rfl

set_option maxRecDepth 100000 in
set_option maxHeartbeats 400000 in
theorem wsub (a b : Nat) (w : World) (ha : a < W256) (hb : b < W256) :
    Calls Try.prog 43 #[wv a, wv b] w fun e w' => e = .returned (.tuple #[wv ((a + W256 - b) % W256), .bool (decide (a < b))]) ∧ Below w.heap.size w w' := by
  go_enter Try.func43, Try.ntmps43
  go_wp2
  go_loopw [7, 9] (fun c i wr => ∃ k : Nat, k ≤ 4 ∧ i = .int .i64 k ∧ c = .int .u64 (ac (a + W256 - b) b (64 * k)) ∧ Blk wr w.heap.size (wcs a) 25 ∧ Blk wr (w.heap.size + 1) (wcs b) 25 ∧ Blk wr (w.heap.size + 1 + 1) (wcs 0) 25 ∧ Blk wr (w.heap.size + 1 + 1 + 1) (wcs ((a + W256 - b) % 2 ^ (64 * k))) 25 ∧ Below w.heap.size w wr) (fun _ i _ => 4 - (intOf i).toNat)
  case atStart =>
    refine ⟨0, by omega, rfl, by rw [Nat.mul_zero, ac_zero], Blk.w4_0 _ _ _ _ _ _, Blk.w4_1 _ _ _ _ _ _, ?_, ?_, ?_⟩
    · rw [wc_zero]; exact Blk.w4_2 _ _ _ _ _ _
    · rw [Nat.mul_zero, Nat.pow_zero, Nat.mod_one, wc_zero]; exact Blk.w4_3 _ _ _ _ _ _
    · exact ((((Below.refl _ _).alloc (Nat.le_refl _) _).alloc (by simp) _).alloc (by simp; omega) _).alloc (by simp; omega) _
  case round =>
    obtain ⟨k, hk, rfl, rfl, H0, H1, H2, H3, HB⟩ := hrel
    by_cases hlt : k < 4
    · have c0 := H0.cell
      have c1 := H1.cell
      have c3 := H3.cell
      have f3 := H3.free
      have ha64 := sub64 a b k hb hlt
      have g0 := wd_at a k hlt
      have g1 := wd_at b k hlt
      go_wp2
      go_region
      replace H0 := H0.setFar (a := ⟨w.heap.size + 1 + 1 + 1, k, none⟩) (by dsimp only; omega) (.int .u64 (wd (a + W256 - b) k))
      replace H1 := H1.setFar (a := ⟨w.heap.size + 1 + 1 + 1, k, none⟩) (by dsimp only; omega) (.int .u64 (wd (a + W256 - b) k))
      replace H2 := H2.setFar (a := ⟨w.heap.size + 1 + 1 + 1, k, none⟩) (by dsimp only; omega) (.int .u64 (wd (a + W256 - b) k))
      replace H3 := H3.set k (.int .u64 (wd (a + W256 - b) k))
      rw [wc_step _ _ hlt] at H3
      replace HB := HB.setCell (p := ⟨w.heap.size + 1 + 1 + 1, k, none⟩) (by dsimp only; omega) (.int .u64 (wd (a + W256 - b) k))
      clear c0 c1 c3 f3 ha64 g0 g1
      go_wp2
      go_roundw
      case rel => exact ⟨k + 1, by omega, by go_num, rfl, H0.drew, H1.drew, H2.drew, H3.drew, HB.drew⟩
      case measure => simp [intOf]; omega
    · obtain rfl : k = 4 := by omega
      rw [show (64 * 4) = 256 from rfl, ← W256_eq] at *
      have c3 := H3.cell
      have c2 := H2.cell
      have f2 := H2.free
      have ea := bc_end a b ha hb
      rw [wc_zero] at c2
      go_wp2
      exact bodyPost_ret (v := .tuple #[wv ((a + W256 - b) % W256), .bool (decide (a < b))]) (by simp [results, Try.results43, go_sem, c2]) rfl
        ⟨rfl, (((HB.setCell (by dsimp only; omega) _).setCell (by dsimp only; omega) _).setCell (by dsimp only; omega) _).setCell (by dsimp only; omega) _⟩
end Go.Proofs.Ytacgcaebolmpfaa
