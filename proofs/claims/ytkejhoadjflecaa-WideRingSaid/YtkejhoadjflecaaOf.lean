/- The walks of Of and Bytes, the program's and the reference's. -/
import Derived.Test.YtkejhoadjflecaaRows
import Derived.Test.YtkejhoadjflecaaHash
namespace Go.Proofs.Ytkejhoadjflecaa
open Go.RowKit

set_option maxRecDepth 100000 in
set_option maxHeartbeats 400000 in
theorem wbytes (a : Nat) (w : World) (ha : a < W256) :
    Calls Try.prog 20 #[wv a] w fun e w' => e = .returned (hv a) ∧ Below w.heap.size w w' := by
  go_enter Try.func20, Try.ntmps20
  go_wp2
  go_loopw [5] (fun i wr => ∃ k : Nat, k ≤ 32 ∧ i = .int .i64 k ∧ St w.heap.size w wr [(w.heap.size + 1 + 1, hcs (a % 2 ^ (8 * k)), 30), (w.heap.size + 1, hcs 0, 30), (w.heap.size, wcs a, 24)]) (fun i _ => 32 - (intOf i).toNat)
  case atStart =>
    refine ⟨0, by omega, rfl, ?_⟩
    rw [Nat.mul_zero, Nat.pow_zero, Nat.mod_one]
    exact St.new3' w (wcs a) (hcs 0) (hcs 0) _ _ _
  case round =>
    obtain ⟨k, hk, rfl, L⟩ := hrel
    by_cases hlt : k < 32
    · have c2 := (L.at (b := w.heap.size + 1 + 1) (c := hcs (a % 2 ^ (8 * k))) (t := 30) (by simp)).cell
      have f2 := (L.at (b := w.heap.size + 1 + 1) (c := hcs (a % 2 ^ (8 * k))) (t := 30) (by simp)).free
      have c0 := (L.at (b := w.heap.size) (c := wcs a) (t := 24) (by simp)).cell
      have g0 := wd_get a (k / 8) (by omega)
      have g1 := wd_at a (k / 8) (by omega)
      have g2 := hcs_get (a % 2 ^ (8 * k)) k hlt
      have hw := byt_wd' a k
      have ba := and7 k hlt
      replace L := L.set (by omega) (by simp <;> omega) k (.int .u8 (byt a k))
      rw [hcs_step] at L
      go_wp2
      go_roundw
      case rel => exact ⟨k + 1, by omega, by go_num, L⟩
      case measure => simp [intOf]; omega
    · obtain rfl : k = 32 := by omega
      rw [show a % 2 ^ (8 * 32) = a from Nat.mod_eq_of_lt ha] at L
      go_upto_region 7 with fail
      go_step
      refine wpl_load rfl 30 (.tmp 3) rfl rfl (L.at (b := w.heap.size + 1 + 1) (c := hcs a) (t := 30) (by simp)) Try.underlying30 (by rw [hcs_size]; kernel_rfl) ?_
      refine wpl_store rfl 30 (.tmp 2) (.tmp 20) rfl rfl rfl (L.at (b := w.heap.size + 1) (c := hcs 0) (t := 30) (by simp)) (by rw [hcs_size, hcs_size]) (by rw [hcs_size]; kernel_rfl) (hcs_one a) ?_
      replace L := (L.perm (l' := [(w.heap.size + 1, hcs 0, 30), (w.heap.size, wcs a, 24)]) (by simp)).setAll (by omega) (by simp <;> omega) (hcs a) (by rw [hcs_size, hcs_size])
      go_wp2
      exact bodyPost_ret (v := hv a) (results_blk Try.results20 _ _ rfl (L.at (b := w.heap.size + 1) (c := hcs a) (t := 30) (by simp)) Try.underlying30 (by rw [hcs_size]; kernel_rfl)) rfl ⟨rfl, L.below⟩

set_option maxRecDepth 100000 in
set_option maxHeartbeats 400000 in
theorem rbytes (a : Nat) (w : World) (ha : a < W256) :
    Calls Try.prog 33 #[wv a] w fun e w' => e = .returned (hv a) ∧ Below w.heap.size w w' := by
  go_enter Try.func33, Try.ntmps33
  go_wp2
  go_loopw [5] (fun i wr => ∃ k : Nat, k ≤ 32 ∧ i = .int .i64 k ∧ St w.heap.size w wr [(w.heap.size + 1 + 1, hcs (a % 2 ^ (8 * k)), 30), (w.heap.size + 1, hcs 0, 30), (w.heap.size, wcs a, 24)]) (fun i _ => 32 - (intOf i).toNat)
  case atStart =>
    refine ⟨0, by omega, rfl, ?_⟩
    rw [Nat.mul_zero, Nat.pow_zero, Nat.mod_one]
    exact St.new3' w (wcs a) (hcs 0) (hcs 0) _ _ _
  case round =>
    obtain ⟨k, hk, rfl, L⟩ := hrel
    by_cases hlt : k < 32
    · have c2 := (L.at (b := w.heap.size + 1 + 1) (c := hcs (a % 2 ^ (8 * k))) (t := 30) (by simp)).cell
      have f2 := (L.at (b := w.heap.size + 1 + 1) (c := hcs (a % 2 ^ (8 * k))) (t := 30) (by simp)).free
      have c0 := (L.at (b := w.heap.size) (c := wcs a) (t := 24) (by simp)).cell
      have g0 := wd_get a (k / 8) (by omega)
      have g1 := wd_at a (k / 8) (by omega)
      have g2 := hcs_get (a % 2 ^ (8 * k)) k hlt
      have hw := byt_wd a k
      replace L := L.set (by omega) (by simp <;> omega) k (.int .u8 (byt a k))
      rw [hcs_step] at L
      go_wp2
      go_roundw
      case rel => exact ⟨k + 1, by omega, by go_num, L⟩
      case measure => simp [intOf]; omega
    · obtain rfl : k = 32 := by omega
      rw [show a % 2 ^ (8 * 32) = a from Nat.mod_eq_of_lt ha] at L
      go_upto_region 7 with fail
      go_step
      refine wpl_load rfl 30 (.tmp 3) rfl rfl (L.at (b := w.heap.size + 1 + 1) (c := hcs a) (t := 30) (by simp)) Try.underlying30 (by rw [hcs_size]; kernel_rfl) ?_
      refine wpl_store rfl 30 (.tmp 2) (.tmp 20) rfl rfl rfl (L.at (b := w.heap.size + 1) (c := hcs 0) (t := 30) (by simp)) (by rw [hcs_size, hcs_size]) (by rw [hcs_size]; kernel_rfl) (hcs_one a) ?_
      replace L := (L.perm (l' := [(w.heap.size + 1, hcs 0, 30), (w.heap.size, wcs a, 24)]) (by simp)).setAll (by omega) (by simp <;> omega) (hcs a) (by rw [hcs_size, hcs_size])
      go_wp2
      exact bodyPost_ret (v := hv a) (results_blk Try.results33 _ _ rfl (L.at (b := w.heap.size + 1) (c := hcs a) (t := 30) (by simp)) Try.underlying30 (by rw [hcs_size]; kernel_rfl)) rfl ⟨rfl, L.below⟩

theorem isAgg_u8 (w : World) : (isAgg 5).run Try.prog w = .ok false w := by kernel_rfl
theorem sizeOf_u8 (w : World) : (Go.sizeOf 5).run Try.prog w = .ok 1 w := by kernel_rfl
set_option maxRecDepth 100000 in
set_option maxHeartbeats 400000 in
theorem wof (h : Nat) (w : World) (hh : h < W256) :
    Calls Try.prog 18 #[hv h] w fun e w' => e = .returned (wv h) ∧ Below w.heap.size w w' := by
  go_enter Try.func18, Try.ntmps18
  go_upto_region 2 with fail
  have L := St.new3' w (hcs h) (wcs 0) (wcs 0) 30 24 24
  rw [wc_zero] at L
  generalize ((w.alloc (.cells (hcs h) 30)).alloc (.cells #[.int .u64 0, .int .u64 0, .int .u64 0, .int .u64 0] 24)).alloc (.cells #[.int .u64 0, .int .u64 0, .int .u64 0, .int .u64 0] 24) = v at *
  rw [← wc_zero] at L
  go_step
  refine wpl_load rfl 30 (.tmp 1) rfl rfl (L.at (b := w.heap.size) (c := hcs h) (t := 30) (by simp)) Try.underlying30 (by rw [hcs_size]; kernel_rfl) ?_
  go_wp2
  go_loopw [7] (fun i wr => ∃ k : Nat, k ≤ 32 ∧ i = .int .i64 k ∧ St w.heap.size w wr [(w.heap.size + 1 + 1, wcs (h % 2 ^ (8 * k)), 24), (w.heap.size + 1, wcs 0, 24), (w.heap.size, hcs h, 30)]) (fun i _ => 32 - (intOf i).toNat)
  case atStart =>
    refine ⟨0, by omega, rfl, ?_⟩
    rw [Nat.mul_zero, Nat.pow_zero, Nat.mod_one]
    exact L
  case round =>
    clear L
    obtain ⟨k, hk, rfl, L⟩ := hrel
    by_cases hlt : k < 32
    · have c2 := (L.at (b := w.heap.size + 1 + 1) (c := wcs (h % 2 ^ (8 * k))) (t := 24) (by simp)).cell
      have f2 := (L.at (b := w.heap.size + 1 + 1) (c := wcs (h % 2 ^ (8 * k))) (t := 24) (by simp)).free
      have g0 := hcs_get h k hlt
      have g1 := wd_get (h % 2 ^ (8 * k)) (k / 8) (by omega)
      have g2 := wd_at (h % 2 ^ (8 * k)) (k / 8) (by omega)
      have gi := fun w => run_index_arr 30 5 32 k (hcs h) (.int .u8 (byt h k)) w Try.underlying30 isAgg_u8 sizeOf_u8 hlt g0
      have ba := and7 k hlt
      have eo := of_or' h k
      have ec := Lib.hid (of_cells h k hlt)
      obtain ⟨r0, r1⟩ := byt_range h k
      go_wp2
      go_region
      replace L := L.set (by omega) (by simp <;> omega) (k / 8) (.int .u64 (wd (h % 2 ^ (8 * (k + 1))) (k / 8)))
      rw [ec.out] at L
      clear c2 f2 g0 g1 g2 gi ba eo ec
      go_wp2
      go_roundw
      case rel => exact ⟨k + 1, by omega, by go_num, L.drew⟩
      case measure => simp [intOf]; omega
    · obtain rfl : k = 32 := by omega
      rw [show h % 2 ^ (8 * 32) = h from Nat.mod_eq_of_lt hh] at L
      have c2 := (L.at (b := w.heap.size + 1 + 1) (c := wcs h) (t := 24) (by simp)).cell
      have c1 := (L.at (b := w.heap.size + 1) (c := wcs 0) (t := 24) (by simp)).cell
      have f1 := (L.at (b := w.heap.size + 1) (c := wcs 0) (t := 24) (by simp)).free
      rw [wc_zero] at c1
      go_wp2
      exact bodyPost_ret (v := wv h) (by simp [results, Try.results18, go_sem, c1]) rfl ⟨rfl, below_put L.below (by omega)⟩

set_option maxRecDepth 100000 in
set_option maxHeartbeats 400000 in
theorem rof (h : Nat) (w : World) (hh : h < W256) :
    Calls Try.prog 19 #[hv h] w fun e w' => e = .returned (wv h) ∧ Below w.heap.size w w' := by
  go_enter Try.func19, Try.ntmps19
  go_upto_region 2 with fail
  have L := St.new3' w (hcs h) (wcs 0) (wcs 0) 30 24 24
  rw [wc_zero] at L
  generalize ((w.alloc (.cells (hcs h) 30)).alloc (.cells #[.int .u64 0, .int .u64 0, .int .u64 0, .int .u64 0] 24)).alloc (.cells #[.int .u64 0, .int .u64 0, .int .u64 0, .int .u64 0] 24) = v at *
  rw [← wc_zero] at L
  go_step
  refine wpl_load rfl 30 (.tmp 1) rfl rfl (L.at (b := w.heap.size) (c := hcs h) (t := 30) (by simp)) Try.underlying30 (by rw [hcs_size]; kernel_rfl) ?_
  go_wp2
  go_loopw [7] (fun i wr => ∃ k : Nat, k ≤ 32 ∧ i = .int .i64 k ∧ St w.heap.size w wr [(w.heap.size + 1 + 1, wcs (h % 2 ^ (8 * k)), 24), (w.heap.size + 1, wcs 0, 24), (w.heap.size, hcs h, 30)]) (fun i _ => 32 - (intOf i).toNat)
  case atStart =>
    refine ⟨0, by omega, rfl, ?_⟩
    rw [Nat.mul_zero, Nat.pow_zero, Nat.mod_one]
    exact L
  case round =>
    clear L
    obtain ⟨k, hk, rfl, L⟩ := hrel
    by_cases hlt : k < 32
    · have c2 := (L.at (b := w.heap.size + 1 + 1) (c := wcs (h % 2 ^ (8 * k))) (t := 24) (by simp)).cell
      have f2 := (L.at (b := w.heap.size + 1 + 1) (c := wcs (h % 2 ^ (8 * k))) (t := 24) (by simp)).free
      have g0 := hcs_get h k hlt
      have g1 := wd_get (h % 2 ^ (8 * k)) (k / 8) (by omega)
      have g2 := wd_at (h % 2 ^ (8 * k)) (k / 8) (by omega)
      have gi := fun w => run_index_arr 30 5 32 k (hcs h) (.int .u8 (byt h k)) w Try.underlying30 isAgg_u8 sizeOf_u8 hlt g0
      have k0 : (0 : Int) ≤ (k : Int) / 8 := by omega
      have k1 : (k : Int) / 8 < 4 := by omega
      have eo := of_or h k
      have ec := Lib.hid (of_cells h k hlt)
      obtain ⟨r0, r1⟩ := byt_range h k
      go_wp2
      go_region
      replace L := L.set (by omega) (by simp <;> omega) (k / 8) (.int .u64 (wd (h % 2 ^ (8 * (k + 1))) (k / 8)))
      rw [ec.out] at L
      clear c2 f2 g0 g1 g2 gi eo ec
      go_wp2
      go_roundw
      case rel => exact ⟨k + 1, by omega, by go_num, L.drew⟩
      case measure => simp [intOf]; omega
    · obtain rfl : k = 32 := by omega
      rw [show h % 2 ^ (8 * 32) = h from Nat.mod_eq_of_lt hh] at L
      have c2 := (L.at (b := w.heap.size + 1 + 1) (c := wcs h) (t := 24) (by simp)).cell
      have c1 := (L.at (b := w.heap.size + 1) (c := wcs 0) (t := 24) (by simp)).cell
      have f1 := (L.at (b := w.heap.size + 1) (c := wcs 0) (t := 24) (by simp)).free
      rw [wc_zero] at c1
      go_wp2
      exact bodyPost_ret (v := wv h) (by simp [results, Try.results19, go_sem, c1]) rfl ⟨rfl, below_put L.below (by omega)⟩
end Go.Proofs.Ytkejhoadjflecaa
