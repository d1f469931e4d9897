/- The walks of Of, the program's and the reference's. -/
import Derived.Test.YtacgcaebolmpfaaRows
import Derived.Test.YtacgcaebolmpfaaHash
namespace Go.Proofs.Ytacgcaebolmpfaa
open Go.RowKit

theorem isAgg_u8 (w : World) : (isAgg 5).run Try.prog w = .ok false w := by kernel_rfl
theorem sizeOf_u8 (w : World) : (Go.sizeOf 5).run Try.prog w = .ok 1 w := by kernel_rfl
set_option maxRecDepth 100000 in
set_option maxHeartbeats 400000 in
theorem wof (h : Nat) (w : World) (hh : h < W256) :
    Calls Try.prog 30 #[hv h] w fun e w' => e = .returned (wv h) ∧ Below w.heap.size w w' := by
  go_enter Try.func30, Try.ntmps30
  go_upto_region 2 with fail
  have L := St.new3' w (hcs h) (wcs 0) (wcs 0) 36 25 25
  rw [wc_zero] at L
  generalize ((w.alloc (.cells (hcs h) 36)).alloc (.cells #[.int .u64 0, .int .u64 0, .int .u64 0, .int .u64 0] 25)).alloc (.cells #[.int .u64 0, .int .u64 0, .int .u64 0, .int .u64 0] 25) = v at *
  rw [← wc_zero] at L
  go_step
  refine wpl_load rfl 36 (.tmp 1) rfl rfl (L.at (b := w.heap.size) (c := hcs h) (t := 36) (by simp)) Try.underlying36 (by rw [hcs_size]; kernel_rfl) ?_
  go_wp2
  go_loopw [7] (fun i wr => ∃ k : Nat, k ≤ 32 ∧ i = .int .i64 k ∧ St w.heap.size w wr [(w.heap.size + 1 + 1, wcs (h % 2 ^ (8 * k)), 25), (w.heap.size + 1, wcs 0, 25), (w.heap.size, hcs h, 36)]) (fun i _ => 32 - (intOf i).toNat)
  case atStart =>
    refine ⟨0, by omega, rfl, ?_⟩
    rw [Nat.mul_zero, Nat.pow_zero, Nat.mod_one]
    exact L
  case round =>
    clear L
    obtain ⟨k, hk, rfl, L⟩ := hrel
    by_cases hlt : k < 32
    · have c2 := (L.at (b := w.heap.size + 1 + 1) (c := wcs (h % 2 ^ (8 * k))) (t := 25) (by simp)).cell
      have f2 := (L.at (b := w.heap.size + 1 + 1) (c := wcs (h % 2 ^ (8 * k))) (t := 25) (by simp)).free
      have g0 := hcs_get h k hlt
      have g1 := wd_get (h % 2 ^ (8 * k)) (k / 8) (by omega)
      have g2 := wd_at (h % 2 ^ (8 * k)) (k / 8) (by omega)
      have gi := fun w => run_index_arr 36 5 32 k (hcs h) (.int .u8 (byt h k)) w Try.underlying36 isAgg_u8 sizeOf_u8 hlt g0
      have ba := and7 k hlt
      have eo := of_or' h k
      have ec := Lib.hid (of_cells h k hlt)
      obtain ⟨r0, r1⟩ := byt_range h k
      go_wp2
      go_region
      replace L := L.set (by omega) (by simp <;> omega) (k / 8) (.int .u64 (wd (h % 2 ^ (8 * (k + 1))) (k / 8)))
      rw [ec.out] at L
      clear c2 f2 g0 g1 g2 gi ba eo ec
      go_wp2
      go_roundw
      case rel => exact ⟨k + 1, by omega, by go_num, L.drew⟩
      case measure => simp [intOf]; omega
    · obtain rfl : k = 32 := by omega
      rw [show h % 2 ^ (8 * 32) = h from Nat.mod_eq_of_lt hh] at L
      have c2 := (L.at (b := w.heap.size + 1 + 1) (c := wcs h) (t := 25) (by simp)).cell
      have c1 := (L.at (b := w.heap.size + 1) (c := wcs 0) (t := 25) (by simp)).cell
      have f1 := (L.at (b := w.heap.size + 1) (c := wcs 0) (t := 25) (by simp)).free
      rw [wc_zero] at c1
      go_wp2
      exact bodyPost_ret (v := wv h) (by simp [results, Try.results30, go_sem, c1]) rfl ⟨rfl, below_put L.below (by omega)⟩

set_option maxRecDepth 100000 in
set_option maxHeartbeats 400000 in
theorem rof (h : Nat) (w : World) (hh : h < W256) :
    Calls Try.prog 31 #[hv h] w fun e w' => e = .returned (wv h) ∧ Below w.heap.size w w' := by
  go_enter Try.func31, Try.ntmps31
  go_upto_region 2 with fail
  have L := St.new3' w (hcs h) (wcs 0) (wcs 0) 36 25 25
  rw [wc_zero] at L
  generalize ((w.alloc (.cells (hcs h) 36)).alloc (.cells #[.int .u64 0, .int .u64 0, .int .u64 0, .int .u64 0] 25)).alloc (.cells #[.int .u64 0, .int .u64 0, .int .u64 0, .int .u64 0] 25) = v at *
  rw [← wc_zero] at L
  go_step
  refine wpl_load rfl 36 (.tmp 1) rfl rfl (L.at (b := w.heap.size) (c := hcs h) (t := 36) (by simp)) Try.underlying36 (by rw [hcs_size]; kernel_rfl) ?_
  go_wp2
  go_loopw [7] (fun i wr => ∃ k : Nat, k ≤ 32 ∧ i = .int .i64 k ∧ St w.heap.size w wr [(w.heap.size + 1 + 1, wcs (h % 2 ^ (8 * k)), 25), (w.heap.size + 1, wcs 0, 25), (w.heap.size, hcs h, 36)]) (fun i _ => 32 - (intOf i).toNat)
  case atStart =>
    refine ⟨0, by omega, rfl, ?_⟩
    rw [Nat.mul_zero, Nat.pow_zero, Nat.mod_one]
    exact L
  case round =>
    clear L
    obtain ⟨k, hk, rfl, L⟩ := hrel
    by_cases hlt : k < 32
    · have c2 := (L.at (b := w.heap.size + 1 + 1) (c := wcs (h % 2 ^ (8 * k))) (t := 25) (by simp)).cell
      have f2 := (L.at (b := w.heap.size + 1 + 1) (c := wcs (h % 2 ^ (8 * k))) (t := 25) (by simp)).free
      have g0 := hcs_get h k hlt
      have g1 := wd_get (h % 2 ^ (8 * k)) (k / 8) (by omega)
      have g2 := wd_at (h % 2 ^ (8 * k)) (k / 8) (by omega)
      have gi := fun w => run_index_arr 36 5 32 k (hcs h) (.int .u8 (byt h k)) w Try.underlying36 isAgg_u8 sizeOf_u8 hlt g0
      have k0 : (0 : Int) ≤ (k : Int) / 8 := by omega
      have k1 : (k : Int) / 8 < 4 := by omega
      have eo := of_or h k
      have ec := Lib.hid (of_cells h k hlt)
      obtain ⟨r0, r1⟩ := byt_range h k
      go_wp2
      go_region
      replace L := L.set (by omega) (by simp <;> omega) (k / 8) (.int .u64 (wd (h % 2 ^ (8 * (k + 1))) (k / 8)))
      rw [ec.out] at L
      clear c2 f2 g0 g1 g2 gi eo ec
      go_wp2
      go_roundw
      case rel => exact ⟨k + 1, by omega, by go_num, L.drew⟩
      case measure => simp [intOf]; omega
    · obtain rfl : k = 32 := by omega
      rw [show h % 2 ^ (8 * 32) = h from Nat.mod_eq_of_lt hh] at L
      have c2 := (L.at (b := w.heap.size + 1 + 1) (c := wcs h) (t := 25) (by simp)).cell
      have c1 := (L.at (b := w.heap.size + 1) (c := wcs 0) (t := 25) (by simp)).cell
      have f1 := (L.at (b := w.heap.size + 1) (c := wcs 0) (t := 25) (by simp)).free
      rw [wc_zero] at c1
      go_wp2
      exact bodyPost_ret (v := wv h) (by simp [results, Try.results31, go_sem, c1]) rfl ⟨rfl, below_put L.below (by omega)⟩
end Go.Proofs.Ytacgcaebolmpfaa
