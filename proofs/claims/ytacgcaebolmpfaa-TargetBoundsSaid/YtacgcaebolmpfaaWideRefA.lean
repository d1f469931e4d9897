/- The walks of the reference's numbers. -/
import Derived.Test.YtacgcaebolmpfaaRows
import Derived.Test.YtacgcaebolmpfaaWideBase
namespace Go.Proofs.Ytacgcaebolmpfaa
open Go.RowKit

theorem rbit (n i : Nat) (w : World) (h' : i < 256) :
    Calls Try.prog 28 #[wv n, .int .i64 i] w fun e w' => e = .returned (.int .u64 (bt n i)) ∧ Below w.heap.size w w' := by
  have e1 := wd_get n (i / 64) (by omega)
  obtain ⟨r0, r1⟩ := wd_range n (i/64)
  have e2 := bit_wd n i
  go_enter Try.func28, Try.ntmps28
  go_wp2
  go_ret
  exact ⟨rfl, (Below.refl _ _).alloc (Nat.le_refl _) _⟩

set_option maxRecDepth 100000 in
set_option maxHeartbeats 400000 in
theorem radd (a b : Nat) (w : World) (ha : a < W256) (hb : b < W256) :
    Calls Try.prog 34 #[wv a, wv b] w fun e w' => e = .returned (.tuple #[wv ((a + b) % W256), .bool (decide (W256 ≤ a + b))]) ∧ Below w.heap.size w w' := by
  go_enter Try.func34, Try.ntmps34
  go_wp2
  go_loopw [7, 10] (fun c i wr => ∃ k : Nat, k ≤ 256 ∧ i = .int .i64 k ∧ c = .int .u64 (ac a b k) ∧ Blk wr w.heap.size (wcs a) 25 ∧ Blk wr (w.heap.size + 1) (wcs b) 25 ∧ Blk wr (w.heap.size + 1 + 1) (wcs 0) 25 ∧ Blk wr (w.heap.size + 1 + 1 + 1) (wcs ((a + b) % 2 ^ k)) 25 ∧ Below w.heap.size w wr) (fun _ i _ => 256 - (intOf i).toNat)
  case atStart =>
    refine ⟨0, by omega, rfl, by rw [ac_zero], Blk.w4_0 _ _ _ _ _ _, Blk.w4_1 _ _ _ _ _ _, ?_, ?_, ?_⟩
    · rw [wc_zero]; exact Blk.w4_2 _ _ _ _ _ _
    · rw [Nat.pow_zero, Nat.mod_one, wc_zero]; exact Blk.w4_3 _ _ _ _ _ _
    · exact ((((Below.refl _ _).alloc (Nat.le_refl _) _).alloc (by simp) _).alloc (by simp; omega) _).alloc (by simp; omega) _
  case round =>
    obtain ⟨k, hk, rfl, rfl, H0, H1, H2, H3, HB⟩ := hrel
    obtain ⟨ba0, ba1⟩ := bt_range a k
    obtain ⟨bb0, bb1⟩ := bt_range b k
    obtain ⟨bc0, bc1⟩ := ac_range a b k
    have c0 := H0.cell
    have c1 := H1.cell
    have l0 := H0.lt
    have l1 := H1.lt
    have es := sb_wrap a b k
    by_cases hlt : k < 256
    · go_wp2
      go_region_held3 (fun w' => Below wr.heap.size wr w' ∧ (∀ b o, b < wr.heap.size → w'.cell? ⟨b, o, none⟩ = wr.cell? ⟨b, o, none⟩)) (first | exact SK.start wr | exact SK.keep (by assumption) hw') (first | (go_at_call 28; refine (rbit _ _ _ hlt).mono ?_; rintro e w' ⟨rfl, hw'⟩) | fail)
      rename_i hK
      obtain ⟨HB', hc⟩ := hK
      clear hc hw'
      go_wp2
      replace H0 := H0.below HB' H0.lt
      replace H1 := H1.below HB' H1.lt
      replace H2 := H2.below HB' H2.lt
      replace H3 := H3.below HB' H3.lt
      replace HB := HB.trans (HB'.mono HB.size)
      have c3 := H3.cell
      have f3 := H3.free
      have e1 := wd_get ((a + b) % 2 ^ k) (k / 64) (by omega)
      clear c0 c1 l0 l1 es
      have k0 : (0 : Int) ≤ (k : Int) / 64 := by omega
      have k1 : (k : Int) / 64 < 4 := by omega
      have hm : (a + b) % 2 ^ k < 2 ^ k := Nat.mod_lt _ (Nat.two_pow_pos k)
      have hc1 : (a + b) / 2 ^ k % 2 ≤ 1 := by omega
      have e2 := sb_bit a b k
      have e3 := or_bit ((a + b) % 2 ^ k) k ((a + b) / 2 ^ k % 2) hm hc1
      have e4 := wc_bit ((a + b) % 2 ^ k) k ((a + b) / 2 ^ k % 2) hlt hm hc1
      rw [← ao_succ] at e3 e4
      change bits .or .u64 _ (IntKind.u64.wrap (bt (a + b) k * 2 ^ (k % 64))) = _ at e3
      have E4 := Lib.hid e4
      clear e4 hm hc1
      go_region
      replace H0 := H0.setFar (a := ⟨w.heap.size + 1 + 1 + 1, k / 64, none⟩) (by dsimp only; omega) (.int .u64 (wd ((a + b) % 2 ^ (k + 1)) (k / 64)))
      replace H1 := H1.setFar (a := ⟨w.heap.size + 1 + 1 + 1, k / 64, none⟩) (by dsimp only; omega) (.int .u64 (wd ((a + b) % 2 ^ (k + 1)) (k / 64)))
      replace H2 := H2.setFar (a := ⟨w.heap.size + 1 + 1 + 1, k / 64, none⟩) (by dsimp only; omega) (.int .u64 (wd ((a + b) % 2 ^ (k + 1)) (k / 64)))
      replace H3 := H3.set (k / 64) (.int .u64 (wd ((a + b) % 2 ^ (k + 1)) (k / 64)))
      rw [E4.out] at H3
      replace HB := HB.setCell (p := ⟨w.heap.size + 1 + 1 + 1, k / 64, none⟩) (by dsimp only; omega) (.int .u64 (wd ((a + b) % 2 ^ (k + 1)) (k / 64)))
      clear c3 f3 e1 e2 e3 E4
      have es := sb_half a b k
      go_wp2
      go_roundw
      case rel => exact ⟨k + 1, by omega, by go_num, rfl, H0.drew, H1.drew, H2.drew, H3.drew, HB.drew⟩
      case measure => simp [intOf]; omega
    · obtain rfl : k = 256 := by omega
      have c3 := H3.cell
      have c2 := H2.cell
      have f2 := H2.free
      have ea := ac_end a b ha hb
      rw [wc_zero] at c2
      rw [← W256_eq] at c3
      go_wp2
      exact bodyPost_ret (v := .tuple #[wv ((a + b) % W256), .bool (decide (W256 ≤ a + b))]) (by simp [results, Try.results34, go_sem, c2]) rfl
        ⟨rfl, (((HB.setCell (by dsimp only; omega) _).setCell (by dsimp only; omega) _).setCell (by dsimp only; omega) _).setCell (by dsimp only; omega) _⟩

theorem rnot (n : Nat) (w : World) (h : n < W256) :
    Calls Try.prog 44 #[wv n] w fun e w' => e = .returned (wv (W256 - 1 - n)) ∧ Below w.heap.size w w' := by
  have x0 := not_wd n 0 h (by decide)
  have x1 := not_wd n 1 h (by decide)
  have x2 := not_wd n 2 h (by decide)
  have x3 := not_wd n 3 h (by decide)
  go_enter Try.func44, Try.ntmps44
  go_wp2
  exact bodyPost_ret (v := wv (W256 - 1 - n)) (by simp [results, Try.results44, go_sem]) rfl
    ⟨rfl, ((Below.refl _ _).alloc (Nat.le_refl _) _).alloc (by simp) _⟩

set_option maxRecDepth 100000 in
set_option maxHeartbeats 400000 in
theorem rcmp (a b : Nat) (w : World) (ha : a < W256) (hb : b < W256) :
    Calls Try.prog 14 #[wv a, wv b] w fun e w' => e = .returned (.int .i64 (cmpN a b)) ∧ Below w.heap.size w w' := by
  go_enter Try.func14, Try.ntmps14
  go_wp2
  go_loopw [5] (fun i wr => ∃ k : Nat, k ≤ 256 ∧ i = .int .i64 ((k : Int) - 1) ∧ a / 2 ^ k = b / 2 ^ k ∧ Blk wr w.heap.size (wcs a) 25 ∧ Blk wr (w.heap.size + 1) (wcs b) 25 ∧ Below w.heap.size w wr) (fun i _ => (intOf i + 1).toNat)
  case atStart => exact ⟨256, by omega, rfl, cmp_start a b ha hb, Blk.w2_0 _ _ _ _, Blk.w2_1 _ _ _ _, ((Below.refl _ _).alloc (Nat.le_refl _) _).alloc (by simp) _⟩
  case round =>
    obtain ⟨k, hk, rfl, he, H0, H1, HB⟩ := hrel
    have c0 := H0.cell
    have c1 := H1.cell
    have l0 := H0.lt
    have l1 := H1.lt
    by_cases hz : k = 0
    · subst hz
      have E := Lib.hid he
      clear he
      go_wp2
      go_ret
      exact ⟨by rw [cmp_end E.out]; rfl, HB⟩
    · obtain ⟨j, rfl⟩ : ∃ j, k = j + 1 := ⟨k - 1, by omega⟩
      have ej : ((j + 1 : Nat) : Int) - 1 = (j : Int) := by omega
      rw [ej]
      have E := Lib.hid he
      clear he ej hz
      have hlt : j < 256 := by omega
      by_cases h1 : bt a j < bt b j
      · go_wp2
        go_region_held3 (fun w' => Below wr.heap.size wr w' ∧ (∀ b o, b < wr.heap.size → w'.cell? ⟨b, o, none⟩ = wr.cell? ⟨b, o, none⟩)) (first | exact SK.start wr | exact SK.keep (by assumption) hw') (first | (go_at_call 28; refine (rbit _ _ _ hlt).mono ?_; rintro e w' ⟨rfl, hw'⟩) | fail)
        rename_i hK
        obtain ⟨HB', hc⟩ := hK
        clear hc hw'
        go_wp2
        go_ret
        exact ⟨by rw [cmp_lt E.out h1]; rfl, HB.trans (HB'.mono HB.size)⟩
      · by_cases h2 : bt b j < bt a j
        · go_wp2
          go_region_held3 (fun w' => Below wr.heap.size wr w' ∧ (∀ b o, b < wr.heap.size → w'.cell? ⟨b, o, none⟩ = wr.cell? ⟨b, o, none⟩)) (first | exact SK.start wr | exact SK.keep (by assumption) hw') (first | (go_at_call 28; refine (rbit _ _ _ hlt).mono ?_; rintro e w' ⟨rfl, hw'⟩) | fail)
          rename_i hK
          clear hw'
          go_wp2
          go_region_held3 (fun w' => Below wr.heap.size wr w' ∧ (∀ b o, b < wr.heap.size → w'.cell? ⟨b, o, none⟩ = wr.cell? ⟨b, o, none⟩)) (first | exact SK.drew hK | exact SK.keep (by assumption) hw'') (first | (go_at_call 28; refine (rbit _ _ _ hlt).mono ?_; rintro e w'' ⟨rfl, hw''⟩) | fail)
          rename_i hK'
          obtain ⟨HB', hc⟩ := hK'
          clear hc hw''
          go_wp2
          go_ret
          exact ⟨by rw [cmp_gt E.out h2]; rfl, HB.trans (HB'.mono HB.size)⟩
        · go_wp2
          go_region_held3 (fun w' => Below wr.heap.size wr w' ∧ (∀ b o, b < wr.heap.size → w'.cell? ⟨b, o, none⟩ = wr.cell? ⟨b, o, none⟩)) (first | exact SK.start wr | exact SK.keep (by assumption) hw') (first | (go_at_call 28; refine (rbit _ _ _ hlt).mono ?_; rintro e w' ⟨rfl, hw'⟩) | fail)
          rename_i hK
          clear hw'
          go_wp2
          go_region_held3 (fun w' => Below wr.heap.size wr w' ∧ (∀ b o, b < wr.heap.size → w'.cell? ⟨b, o, none⟩ = wr.cell? ⟨b, o, none⟩)) (first | exact SK.drew hK | exact SK.keep (by assumption) hw'') (first | (go_at_call 28; refine (rbit _ _ _ hlt).mono ?_; rintro e w'' ⟨rfl, hw''⟩) | fail)
          rename_i hK'
          obtain ⟨HB', hc⟩ := hK'
          clear hc hw'' hK
          go_wp2
          go_roundw
          case rel => exact ⟨j, by omega, rfl, cmp_next E.out (Int.not_lt.2 h1) (Int.not_lt.2 h2), H0.below HB' H0.lt, H1.below HB' H1.lt, HB.trans (HB'.mono HB.size)⟩
          case measure => simp [intOf]
end Go.Proofs.Ytacgcaebolmpfaa
