/- The walks of the reference's shifts. -/
import Derived.Test.YtacgcaebolmpfaaWideRefB
import Derived.Test.YtacgcaebolmpfaaHash
import Derived.Deep.LoopGhost
import Derived.Test.YtacgcaebolmpfaaRegion
namespace Go.Proofs.Ytacgcaebolmpfaa
open Go.RowKit
set_option linter.unusedSimpArgs false

/-- how far a shift goes -/
def clampN (n : Int) : Nat := (min (max n 0) 256).toNat
theorem clampN_le (n : Int) : clampN n ≤ 256 := by unfold clampN; omega

theorem left_bit (a c j : Nat) : bt a j = bt (a * 2 ^ c) (c + j) := by
  unfold bt; rw [Nat.pow_add, Nat.mul_comm a, Nat.mul_div_mul_left _ _ (Nat.two_pow_pos c)]
theorem left_or (a c j : Nat) : bits .or .u64 (wd (a * 2 ^ c % 2 ^ (c + j)) ((c + j) / 64)) (IntKind.u64.wrap (bt a j * 2 ^ ((c + j) % 64))) = wd (a * 2 ^ c % 2 ^ (c + j + 1)) ((c + j) / 64) := by
  rw [left_bit a c j]
  have := or_bit (a * 2 ^ c % 2 ^ (c + j)) (c + j) (a * 2 ^ c / 2 ^ (c + j) % 2) (Nat.mod_lt _ (Nat.two_pow_pos _)) (by omega)
  rw [← Nat.mod_pow_succ] at this
  exact this
theorem left_cells (a c j : Nat) (h : c + j < 256) : (wcs (a * 2 ^ c % 2 ^ (c + j))).setIfInBounds ((c + j) / 64) (.int .u64 (wd (a * 2 ^ c % 2 ^ (c + j + 1)) ((c + j) / 64))) = wcs (a * 2 ^ c % 2 ^ (c + j + 1)) := by
  have := wc_bit (a * 2 ^ c % 2 ^ (c + j)) (c + j) (a * 2 ^ c / 2 ^ (c + j) % 2) h (Nat.mod_lt _ (Nat.two_pow_pos _)) (by omega)
  rw [← Nat.mod_pow_succ] at this
  exact this
theorem right_bit (a c k : Nat) : bt a (k + c) = bt (a / 2 ^ c) k := by
  unfold bt; rw [Nat.div_div_eq_div_mul, ← Nat.pow_add, Nat.add_comm c]
theorem right_or (a c k : Nat) : bits .or .u64 (wd (a / 2 ^ c % 2 ^ k) (k / 64)) (IntKind.u64.wrap (bt a (k + c) * 2 ^ (k % 64))) = wd (a / 2 ^ c % 2 ^ (k + 1)) (k / 64) := by
  rw [right_bit a c k]
  have := or_bit (a / 2 ^ c % 2 ^ k) k (a / 2 ^ c / 2 ^ k % 2) (Nat.mod_lt _ (Nat.two_pow_pos _)) (by omega)
  rw [← Nat.mod_pow_succ] at this
  exact this
theorem right_cells (a c k : Nat) (h : k < 256) : (wcs (a / 2 ^ c % 2 ^ k)).setIfInBounds (k / 64) (.int .u64 (wd (a / 2 ^ c % 2 ^ (k + 1)) (k / 64))) = wcs (a / 2 ^ c % 2 ^ (k + 1)) := by
  have := wc_bit (a / 2 ^ c % 2 ^ k) k (a / 2 ^ c / 2 ^ k % 2) h (Nat.mod_lt _ (Nat.two_pow_pos _)) (by omega)
  rw [← Nat.mod_pow_succ] at this
  exact this
theorem right_end (a c : Nat) (ha : a < W256) (hc : c ≤ 256) : a / 2 ^ c % 2 ^ (256 - c) = a / 2 ^ c := by
  rw [W256_eq] at ha
  refine Nat.mod_eq_of_lt ?_
  rw [Nat.div_lt_iff_lt_mul (Nat.two_pow_pos c), ← Nat.pow_add, Nat.sub_add_cancel hc]
  exact ha
theorem St.c3' {B : Nat} {W w : World} {b0 b1 b2 : Nat} {c0 c1 c2 : Array Value} {t0 t1 t2 : TypeId} {l : List (Nat × Array Value × TypeId)} (h : St B W w ((b0, c0, t0) :: (b1, c1, t1) :: (b2, c2, t2) :: l)) :
    (∀ o, w.cell? ⟨b0, o, none⟩ = c0[o]?) ∧ (∀ o, w.cell? ⟨b1, o, none⟩ = c1[o]?) ∧ (∀ o, w.cell? ⟨b2, o, none⟩ = c2[o]?) ∧ b0 < w.heap.size ∧ b1 < w.heap.size ∧ b2 < w.heap.size := by
  obtain ⟨h0, h1, l0, l1⟩ := h.c2
  obtain ⟨_, h2, _, l2⟩ := h.tail.c2
  exact ⟨h0, h1, h2, l0, l1, l2⟩

set_option maxRecDepth 100000 in
set_option maxHeartbeats 800000 in
theorem rleft (a : Nat) (n : Int) (w : World) :
    Calls Try.prog 27 #[wv a, .int .i64 n] w fun e w' => e = .returned (wv (a * 2 ^ clampN n % W256)) ∧ Below w.heap.size w w' := by
  have hcl := clampN_le n
  go_enter Try.func27, Try.ntmps27
  go_upto_region 2 with fail
  have L := St.new3' w (wcs a) (wcs 0) (wcs 0) 25 25 25
  rw [wc_zero] at L
  generalize ((w.alloc (.cells #[.int .u64 (wd a 0), .int .u64 (wd a 1), .int .u64 (wd a 2), .int .u64 (wd a 3)] 25)).alloc (.cells #[.int .u64 0, .int .u64 0, .int .u64 0, .int .u64 0] 25)).alloc (.cells #[.int .u64 0, .int .u64 0, .int .u64 0, .int .u64 0] 25) = v at *
  rw [← wc_zero] at L
  go_cut [1] (fun s1 wx => s1 = .int .i64 (clampN n : Int) ∧ wx = v)
  case first =>
    clear hcl
    go_wp2_with fail
    all_goals (go_meet; exact ⟨by unfold clampN; congr 1; omega, rfl⟩)
  case rest =>
    obtain ⟨rfl, rfl⟩ := hcut
    generalize hc : clampN n = c at *
    have HC := Lib.hid hc
    clear hc
    go_wp2
    go_loopg [6] (256 - c) (fun g i wr => ∃ k : Nat, c ≤ k ∧ k ≤ 256 ∧ g = 256 - k ∧ i = .int .i64 k ∧ St w.heap.size w wr [(w.heap.size + 1 + 1, wcs (a * 2 ^ c % 2 ^ k), 25), (w.heap.size + 1, wcs 0, 25), (w.heap.size, wcs a, 25)])
    case atStart =>
      refine ⟨c, by omega, by omega, rfl, rfl, ?_⟩
      rw [Nat.mul_mod_left]
      exact L
    case round =>
      clear L
      obtain ⟨k, hk0, hk1, rfl, rfl, L⟩ := hrel
      by_cases hlt : k < 256
      · obtain ⟨j, hj⟩ : ∃ j, c + j = k := ⟨k - c, by omega⟩
        have eo := left_or a c j
        have EC := Lib.hid (left_cells a c j (by omega))
        rw [hj] at eo EC
        have ej : (k : Int) - (c : Int) = (j : Int) := by omega
        have hj256 : j < 256 := by omega
        clear hj
        obtain ⟨ck2, ck1, ck0, l2, l1, l0⟩ := L.c3'
        have f2 := (L.at (b := w.heap.size + 1 + 1) (c := wcs (a * 2 ^ c % 2 ^ k)) (t := 25) (by simp)).free
        have g0 := wd_get (a * 2 ^ c % 2 ^ k) (k / 64) (by omega)
        have g1 := wd_at (a * 2 ^ c % 2 ^ k) (k / 64) (by omega)
        have k0 : (0 : Int) ≤ (k : Int) / 64 := by omega
        have k1 : (k : Int) / 64 < 4 := by omega
        have iw1 := IntWalk.i64_in ((k : Int) / 64) (by omega)
        have iw2 := IntWalk.rem_in (k : Int) 64 (by omega)
        have iw3 : IntKind.i64.wrap ((k : Int) - (c : Int)) = (j : Int) := by rw [ej]; exact IntWalk.i64_in _ (by omega)
        have iw4 : ((k : Int) / 64).toNat = k / 64 := by omega
        have iw5 : ((k : Int) % 64).toNat = k % 64 := by omega
        have iw6 := IntWalk.i64_in (j : Int) (by omega)
        have hnext : 256 - (k + 1) < 256 - k := by omega
        go_upto_region 6 with fail
        refine wp_region_last 16 (fun w' => Below wr.heap.size wr w' ∧ (∀ b o, b < wr.heap.size → w'.cell? ⟨b, o, none⟩ = wr.cell? ⟨b, o, none⟩) ∧ (∀ b o, b < wr.heap.size → w'.frozen? ⟨b, o, none⟩ = wr.frozen? ⟨b, o, none⟩)) (by kernel_rfl) (SF.start wr) (fun hS => ?_)
        refine wpAnyL_take (i := 0) (oi := ⟨_, _, _, _, _, _⟩) (v := ?_) rfl (by kernel_rfl) (by kernel_rfl) (by kernel_rfl) (by kernel_rfl) (fun _ _ _ h => h) (Or.inl ⟨by rfl, ?_⟩) hS ?_
        rotate_left
        · intro w0 hs; obtain ⟨s1, s2, s3⟩ := hs; go_simp; try (with_reducible rfl)
        try simp only [Act.put, List.setIfInBounds_toArray, List.set_cons_zero, List.set_cons_succ]
        refine wpAnyL_take (i := 1) (oi := ⟨_, _, _, _, _, _⟩) (v := ?_) rfl (by kernel_rfl) (by kernel_rfl) (by kernel_rfl) (by kernel_rfl) (fun _ _ _ h => h) (Or.inl ⟨by rfl, ?_⟩) hS ?_
        rotate_left
        · intro w0 hs; obtain ⟨s1, s2, s3⟩ := hs; go_simp; try (with_reducible rfl)
        try simp only [Act.put, List.setIfInBounds_toArray, List.set_cons_zero, List.set_cons_succ]
        refine wpAnyL_take (i := 2) (oi := ⟨_, _, _, _, _, _⟩) (v := ?_) rfl (by kernel_rfl) (by kernel_rfl) (by kernel_rfl) (by kernel_rfl) (fun _ _ _ h => h) (Or.inl ⟨by rfl, ?_⟩) hS ?_
        rotate_left
        · intro w0 hs; obtain ⟨s1, s2, s3⟩ := hs; go_simp; try (with_reducible rfl)
        try simp only [Act.put, List.setIfInBounds_toArray, List.set_cons_zero, List.set_cons_succ]
        refine wpAnyL_take (i := 3) (oi := ⟨_, _, _, _, _, _⟩) (v := ?_) rfl (by kernel_rfl) (by kernel_rfl) (by kernel_rfl) (by kernel_rfl) (fun _ _ _ h => h) (Or.inl ⟨by rfl, ?_⟩) hS ?_
        rotate_left
        · intro w0 hs; obtain ⟨s1, s2, s3⟩ := hs; go_simp; try (with_reducible rfl)
        try simp only [Act.put, List.setIfInBounds_toArray, List.set_cons_zero, List.set_cons_succ]
        refine wpAnyL_take (i := 4) (oi := ⟨_, _, _, _, _, _⟩) (v := ?_) rfl (by kernel_rfl) (by kernel_rfl) (by kernel_rfl) (by kernel_rfl) (fun _ _ _ h => h) (Or.inl ⟨by rfl, ?_⟩) hS ?_
        rotate_left
        · intro w0 hs; obtain ⟨s1, s2, s3⟩ := hs; go_simp; try (with_reducible rfl)
        try simp only [Act.put, List.setIfInBounds_toArray, List.set_cons_zero, List.set_cons_succ]
        refine wpAnyL_take (i := 5) (oi := ⟨_, _, _, _, _, _⟩) (v := ?_) rfl (by kernel_rfl) (by kernel_rfl) (by kernel_rfl) (by kernel_rfl) (fun _ _ _ h => h) (Or.inl ⟨by rfl, ?_⟩) hS ?_
        rotate_left
        · intro w0 hs; obtain ⟨s1, s2, s3⟩ := hs; go_simp; try (with_reducible rfl)
        try simp only [Act.put, List.setIfInBounds_toArray, List.set_cons_zero, List.set_cons_succ]
        refine wpAnyL_take (i := 6) (oi := ⟨_, _, _, _, _, _⟩) (v := ?_) rfl (by kernel_rfl) (by kernel_rfl) (by kernel_rfl) (by kernel_rfl) (fun _ _ _ h => h) (Or.inl ⟨by rfl, ?_⟩) hS ?_
        rotate_left
        · intro w0 hs; obtain ⟨s1, s2, s3⟩ := hs; go_simp; try (with_reducible rfl)
        try simp only [Act.put, List.setIfInBounds_toArray, List.set_cons_zero, List.set_cons_succ]
        refine wpAnyL_take (i := 7) (oi := ⟨_, _, _, _, _, _⟩) (v := ?_) rfl (by kernel_rfl) (by kernel_rfl) (by kernel_rfl) (by kernel_rfl) (fun _ _ _ h => h) (Or.inl ⟨by rfl, ?_⟩) hS ?_
        rotate_left
        · intro w0 hs; obtain ⟨s1, s2, s3⟩ := hs; go_simp; try (with_reducible rfl)
        try simp only [Act.put, List.setIfInBounds_toArray, List.set_cons_zero, List.set_cons_succ]
        refine wpAnyL_take (i := 8) (oi := ⟨_, _, _, _, _, _⟩) (v := ?_) rfl (by kernel_rfl) (by kernel_rfl) (by kernel_rfl) (by kernel_rfl) (fun _ _ _ h => h) (Or.inl ⟨by rfl, ?_⟩) hS ?_
        rotate_left
        · intro w0 hs; obtain ⟨s1, s2, s3⟩ := hs; go_simp; try (with_reducible rfl)
        try simp only [Act.put, List.setIfInBounds_toArray, List.set_cons_zero, List.set_cons_succ]
        refine wpAnyL_take (i := 9) (oi := ⟨_, _, _, _, _, _⟩) (v := ?_) rfl (by kernel_rfl) (by kernel_rfl) (by kernel_rfl) (by kernel_rfl) (fun _ _ _ h => h) (Or.inl ⟨by rfl, ?_⟩) hS ?_
        rotate_left
        · intro w0 hs; obtain ⟨s1, s2, s3⟩ := hs; go_simp; try (with_reducible rfl)
        try simp only [Act.put, List.setIfInBounds_toArray, List.set_cons_zero, List.set_cons_succ]
        refine wpAnyL_take (i := 11) (oi := ⟨_, _, _, _, _, _⟩) (v := ?_) rfl (by kernel_rfl) (by kernel_rfl) (by kernel_rfl) (by kernel_rfl) (fun _ _ _ h => h) (Or.inl ⟨by rfl, ?_⟩) hS ?_
        rotate_left
        · intro w0 hs; obtain ⟨s1, s2, s3⟩ := hs; go_simp; try (with_reducible rfl)
        try simp only [Act.put, List.setIfInBounds_toArray, List.set_cons_zero, List.set_cons_succ]
        refine wpAnyL_take (i := 12) (oi := ⟨_, _, _, _, _, _⟩) (v := ?_) rfl (by kernel_rfl) (by kernel_rfl) (by kernel_rfl) (by kernel_rfl) (fun _ _ _ h => h) (Or.inl ⟨by rfl, ?_⟩) hS ?_
        rotate_left
        · intro w0 hs; obtain ⟨s1, s2, s3⟩ := hs; go_simp; try (with_reducible rfl)
        try simp only [Act.put, List.setIfInBounds_toArray, List.set_cons_zero, List.set_cons_succ]
        refine wpAnyL_one (i := 10) (oi := ⟨_, _, _, _, _, _⟩) rfl (by kernel_rfl) (fun K hK => ?_)
        rw [if_pos (by rfl)]
        go_step
        refine (rbit a j _ hj256).mono ?_
        rintro e w1 ⟨rfl, hw1⟩
        simp only []
        have hS' := (SF.keep hS hw1)
        refine hK.out _ _ (.inr hS') ?_
        clear hS hK
        have hS := hS'; clear hS'
        try simp only [Act.put, List.setIfInBounds_toArray, List.set_cons_zero, List.set_cons_succ]
        refine wpAnyL_take (i := 13) (oi := ⟨_, _, _, _, _, _⟩) (v := ?_) rfl (by kernel_rfl) (by kernel_rfl) (by kernel_rfl) (by kernel_rfl) (fun _ _ _ h => h) (Or.inl ⟨by rfl, ?_⟩) hS ?_
        rotate_left
        · intro w0 hs; obtain ⟨s1, s2, s3⟩ := hs; go_simp; try (with_reducible rfl)
        try simp only [Act.put, List.setIfInBounds_toArray, List.set_cons_zero, List.set_cons_succ]
        refine wpAnyL_take (i := 14) (oi := ⟨_, _, _, _, _, _⟩) (v := ?_) rfl (by kernel_rfl) (by kernel_rfl) (by kernel_rfl) (by kernel_rfl) (fun _ _ _ h => h) (Or.inl ⟨by rfl, ?_⟩) hS ?_
        rotate_left
        · intro w0 hs; obtain ⟨s1, s2, s3⟩ := hs; go_simp; try (with_reducible rfl)
        try simp only [Act.put, List.setIfInBounds_toArray, List.set_cons_zero, List.set_cons_succ]
        refine wpAnyL_take (i := 15) (oi := ⟨_, _, _, _, _, _⟩) (v := ?_) rfl (by kernel_rfl) (by kernel_rfl) (by kernel_rfl) (by kernel_rfl) (fun _ _ _ h => h) (Or.inl ⟨by rfl, ?_⟩) hS ?_
        rotate_left
        · intro w0 hs; obtain ⟨s1, s2, s3⟩ := hs; go_simp; try (with_reducible rfl)
        try simp only [Act.put, List.setIfInBounds_toArray, List.set_cons_zero, List.set_cons_succ]
        refine wpAnyL_one (i := 16) (oi := ⟨_, _, _, _, _, _⟩) rfl (by kernel_rfl) (fun K hK => ?_)
        rw [if_pos (by rfl)]
        obtain ⟨s1, s2, s3⟩ := hS
        go_simp
        refine hK.out _ _ (.inl rfl) ?_
        clear hK
        try simp only [Act.put, List.setIfInBounds_toArray, List.set_cons_zero, List.set_cons_succ]
        refine wpAnyL_done (by kernel_rfl) ?_ _
        replace L := (L.call s1).set (by omega) (by simp <;> omega) (k / 64) (.int .u64 (wd (a * 2 ^ c % 2 ^ (k + 1)) (k / 64)))
        rw [EC.out] at L
        clear eo EC ej ck2 ck1 ck0 f2 g0 g1 iw1 iw2 iw3 iw4 iw5 iw6 s1 s2 s3 hw1
        go_wp2
        go_roundg (256 - (k + 1))
        case measure => omega
        case rel => exact ⟨k + 1, by omega, by omega, rfl, by go_num, L⟩
      · obtain rfl : k = 256 := by omega
        rw [← W256_eq] at L
        obtain ⟨ck2, ck1, ck0, l2, l1, l0⟩ := L.c3'
        have f1 := (L.at (b := w.heap.size + 1) (c := wcs 0) (t := 25) (by simp)).free
        rw [wc_zero] at ck1
        go_wp2
        exact bodyPost_ret (v := wv (a * 2 ^ c % W256)) (by simp [results, Try.results27, go_sem, ck1]) rfl ⟨by rw [HC.out], below_put L.below (by omega)⟩

set_option maxRecDepth 100000 in
set_option maxHeartbeats 800000 in
theorem rright (a : Nat) (n : Int) (w : World) (ha : a < W256) :
    Calls Try.prog 26 #[wv a, .int .i64 n] w fun e w' => e = .returned (wv (a / 2 ^ clampN n)) ∧ Below w.heap.size w w' := by
  have hcl := clampN_le n
  go_enter Try.func26, Try.ntmps26
  go_upto_region 2 with fail
  have L := St.new3' w (wcs a) (wcs 0) (wcs 0) 25 25 25
  rw [wc_zero] at L
  generalize ((w.alloc (.cells #[.int .u64 (wd a 0), .int .u64 (wd a 1), .int .u64 (wd a 2), .int .u64 (wd a 3)] 25)).alloc (.cells #[.int .u64 0, .int .u64 0, .int .u64 0, .int .u64 0] 25)).alloc (.cells #[.int .u64 0, .int .u64 0, .int .u64 0, .int .u64 0] 25) = v at *
  rw [← wc_zero] at L
  go_cut [1] (fun s1 wx => s1 = .int .i64 (clampN n : Int) ∧ wx = v)
  case first =>
    clear hcl
    go_wp2_with fail
    all_goals (go_meet; exact ⟨by unfold clampN; congr 1; omega, rfl⟩)
  case rest =>
    obtain ⟨rfl, rfl⟩ := hcut
    generalize hc : clampN n = c at *
    have HC := Lib.hid hc
    clear hc
    go_wp2
    go_loopg [6] (256 - c) (fun g i wr => ∃ k : Nat, k ≤ 256 - c ∧ g = 256 - c - k ∧ i = .int .i64 k ∧ St w.heap.size w wr [(w.heap.size + 1 + 1, wcs (a / 2 ^ c % 2 ^ k), 25), (w.heap.size + 1, wcs 0, 25), (w.heap.size, wcs a, 25)])
    case atStart =>
      refine ⟨0, by omega, rfl, rfl, ?_⟩
      rw [Nat.pow_zero, Nat.mod_one]
      exact L
    case round =>
      clear L
      obtain ⟨k, hk1, rfl, rfl, L⟩ := hrel
      by_cases hlt : k < 256 - c
      · have eo := right_or a c k
        have EC := Lib.hid (right_cells a c k (by omega))
        have hkc : k + c < 256 := by omega
        have hti : (k : Int) < 256 - (c : Int) := by omega
        obtain ⟨ck2, ck1, ck0, l2, l1, l0⟩ := L.c3'
        have f2 := (L.at (b := w.heap.size + 1 + 1) (c := wcs (a / 2 ^ c % 2 ^ k)) (t := 25) (by simp)).free
        have g0 := wd_get (a / 2 ^ c % 2 ^ k) (k / 64) (by omega)
        have g1 := wd_at (a / 2 ^ c % 2 ^ k) (k / 64) (by omega)
        have k0 : (0 : Int) ≤ (k : Int) / 64 := by omega
        have k1 : (k : Int) / 64 < 4 := by omega
        have iw1 := IntWalk.i64_in ((k : Int) / 64) (by omega)
        have iw2 := IntWalk.rem_in (k : Int) 64 (by omega)
        have iw3 := IntWalk.i64_in ((k : Int) + (c : Int)) (by omega)
        have iw4 : ((k : Int) / 64).toNat = k / 64 := by omega
        have iw5 : ((k : Int) % 64).toNat = k % 64 := by omega
        have hnext : 256 - c - (k + 1) < 256 - c - k := by omega
        go_upto_region 6 with fail
        refine wp_region_last 16 (fun w' => Below wr.heap.size wr w' ∧ (∀ b o, b < wr.heap.size → w'.cell? ⟨b, o, none⟩ = wr.cell? ⟨b, o, none⟩) ∧ (∀ b o, b < wr.heap.size → w'.frozen? ⟨b, o, none⟩ = wr.frozen? ⟨b, o, none⟩)) (by kernel_rfl) (SF.start wr) (fun hS => ?_)
        refine wpAnyL_take (i := 0) (oi := ⟨_, _, _, _, _, _⟩) (v := ?_) rfl (by kernel_rfl) (by kernel_rfl) (by kernel_rfl) (by kernel_rfl) (fun _ _ _ h => h) (Or.inl ⟨by rfl, ?_⟩) hS ?_
        rotate_left
        · intro w0 hs; obtain ⟨s1, s2, s3⟩ := hs; go_simp; try (with_reducible rfl)
        try simp only [Act.put, List.setIfInBounds_toArray, List.set_cons_zero, List.set_cons_succ]
        refine wpAnyL_take (i := 1) (oi := ⟨_, _, _, _, _, _⟩) (v := ?_) rfl (by kernel_rfl) (by kernel_rfl) (by kernel_rfl) (by kernel_rfl) (fun _ _ _ h => h) (Or.inl ⟨by rfl, ?_⟩) hS ?_
        rotate_left
        · intro w0 hs; obtain ⟨s1, s2, s3⟩ := hs; go_simp; try (with_reducible rfl)
        try simp only [Act.put, List.setIfInBounds_toArray, List.set_cons_zero, List.set_cons_succ]
        refine wpAnyL_take (i := 2) (oi := ⟨_, _, _, _, _, _⟩) (v := ?_) rfl (by kernel_rfl) (by kernel_rfl) (by kernel_rfl) (by kernel_rfl) (fun _ _ _ h => h) (Or.inl ⟨by rfl, ?_⟩) hS ?_
        rotate_left
        · intro w0 hs; obtain ⟨s1, s2, s3⟩ := hs; go_simp; try (with_reducible rfl)
        try simp only [Act.put, List.setIfInBounds_toArray, List.set_cons_zero, List.set_cons_succ]
        refine wpAnyL_take (i := 3) (oi := ⟨_, _, _, _, _, _⟩) (v := ?_) rfl (by kernel_rfl) (by kernel_rfl) (by kernel_rfl) (by kernel_rfl) (fun _ _ _ h => h) (Or.inl ⟨by rfl, ?_⟩) hS ?_
        rotate_left
        · intro w0 hs; obtain ⟨s1, s2, s3⟩ := hs; go_simp; try (with_reducible rfl)
        try simp only [Act.put, List.setIfInBounds_toArray, List.set_cons_zero, List.set_cons_succ]
        refine wpAnyL_take (i := 4) (oi := ⟨_, _, _, _, _, _⟩) (v := ?_) rfl (by kernel_rfl) (by kernel_rfl) (by kernel_rfl) (by kernel_rfl) (fun _ _ _ h => h) (Or.inl ⟨by rfl, ?_⟩) hS ?_
        rotate_left
        · intro w0 hs; obtain ⟨s1, s2, s3⟩ := hs; go_simp; try (with_reducible rfl)
        try simp only [Act.put, List.setIfInBounds_toArray, List.set_cons_zero, List.set_cons_succ]
        refine wpAnyL_take (i := 5) (oi := ⟨_, _, _, _, _, _⟩) (v := ?_) rfl (by kernel_rfl) (by kernel_rfl) (by kernel_rfl) (by kernel_rfl) (fun _ _ _ h => h) (Or.inl ⟨by rfl, ?_⟩) hS ?_
        rotate_left
        · intro w0 hs; obtain ⟨s1, s2, s3⟩ := hs; go_simp; try (with_reducible rfl)
        try simp only [Act.put, List.setIfInBounds_toArray, List.set_cons_zero, List.set_cons_succ]
        refine wpAnyL_take (i := 6) (oi := ⟨_, _, _, _, _, _⟩) (v := ?_) rfl (by kernel_rfl) (by kernel_rfl) (by kernel_rfl) (by kernel_rfl) (fun _ _ _ h => h) (Or.inl ⟨by rfl, ?_⟩) hS ?_
        rotate_left
        · intro w0 hs; obtain ⟨s1, s2, s3⟩ := hs; go_simp; try (with_reducible rfl)
        try simp only [Act.put, List.setIfInBounds_toArray, List.set_cons_zero, List.set_cons_succ]
        refine wpAnyL_take (i := 7) (oi := ⟨_, _, _, _, _, _⟩) (v := ?_) rfl (by kernel_rfl) (by kernel_rfl) (by kernel_rfl) (by kernel_rfl) (fun _ _ _ h => h) (Or.inl ⟨by rfl, ?_⟩) hS ?_
        rotate_left
        · intro w0 hs; obtain ⟨s1, s2, s3⟩ := hs; go_simp; try (with_reducible rfl)
        try simp only [Act.put, List.setIfInBounds_toArray, List.set_cons_zero, List.set_cons_succ]
        refine wpAnyL_take (i := 8) (oi := ⟨_, _, _, _, _, _⟩) (v := ?_) rfl (by kernel_rfl) (by kernel_rfl) (by kernel_rfl) (by kernel_rfl) (fun _ _ _ h => h) (Or.inl ⟨by rfl, ?_⟩) hS ?_
        rotate_left
        · intro w0 hs; obtain ⟨s1, s2, s3⟩ := hs; go_simp; try (with_reducible rfl)
        try simp only [Act.put, List.setIfInBounds_toArray, List.set_cons_zero, List.set_cons_succ]
        refine wpAnyL_take (i := 9) (oi := ⟨_, _, _, _, _, _⟩) (v := ?_) rfl (by kernel_rfl) (by kernel_rfl) (by kernel_rfl) (by kernel_rfl) (fun _ _ _ h => h) (Or.inl ⟨by rfl, ?_⟩) hS ?_
        rotate_left
        · intro w0 hs; obtain ⟨s1, s2, s3⟩ := hs; go_simp; try (with_reducible rfl)
        try simp only [Act.put, List.setIfInBounds_toArray, List.set_cons_zero, List.set_cons_succ]
        refine wpAnyL_take (i := 11) (oi := ⟨_, _, _, _, _, _⟩) (v := ?_) rfl (by kernel_rfl) (by kernel_rfl) (by kernel_rfl) (by kernel_rfl) (fun _ _ _ h => h) (Or.inl ⟨by rfl, ?_⟩) hS ?_
        rotate_left
        · intro w0 hs; obtain ⟨s1, s2, s3⟩ := hs; go_simp; try (with_reducible rfl)
        try simp only [Act.put, List.setIfInBounds_toArray, List.set_cons_zero, List.set_cons_succ]
        refine wpAnyL_take (i := 12) (oi := ⟨_, _, _, _, _, _⟩) (v := ?_) rfl (by kernel_rfl) (by kernel_rfl) (by kernel_rfl) (by kernel_rfl) (fun _ _ _ h => h) (Or.inl ⟨by rfl, ?_⟩) hS ?_
        rotate_left
        · intro w0 hs; obtain ⟨s1, s2, s3⟩ := hs; go_simp; try (with_reducible rfl)
        try simp only [Act.put, List.setIfInBounds_toArray, List.set_cons_zero, List.set_cons_succ]
        refine wpAnyL_one (i := 10) (oi := ⟨_, _, _, _, _, _⟩) rfl (by kernel_rfl) (fun K hK => ?_)
        rw [if_pos (by rfl)]
        go_step
        refine (rbit a (k + c) _ hkc).mono ?_
        rintro e w1 ⟨rfl, hw1⟩
        simp only []
        have hS' := (SF.keep hS hw1)
        refine hK.out _ _ (.inr hS') ?_
        clear hS hK
        have hS := hS'; clear hS'
        try simp only [Act.put, List.setIfInBounds_toArray, List.set_cons_zero, List.set_cons_succ]
        refine wpAnyL_take (i := 13) (oi := ⟨_, _, _, _, _, _⟩) (v := ?_) rfl (by kernel_rfl) (by kernel_rfl) (by kernel_rfl) (by kernel_rfl) (fun _ _ _ h => h) (Or.inl ⟨by rfl, ?_⟩) hS ?_
        rotate_left
        · intro w0 hs; obtain ⟨s1, s2, s3⟩ := hs; go_simp; try (with_reducible rfl)
        try simp only [Act.put, List.setIfInBounds_toArray, List.set_cons_zero, List.set_cons_succ]
        refine wpAnyL_take (i := 14) (oi := ⟨_, _, _, _, _, _⟩) (v := ?_) rfl (by kernel_rfl) (by kernel_rfl) (by kernel_rfl) (by kernel_rfl) (fun _ _ _ h => h) (Or.inl ⟨by rfl, ?_⟩) hS ?_
        rotate_left
        · intro w0 hs; obtain ⟨s1, s2, s3⟩ := hs; go_simp; try (with_reducible rfl)
        try simp only [Act.put, List.setIfInBounds_toArray, List.set_cons_zero, List.set_cons_succ]
        refine wpAnyL_take (i := 15) (oi := ⟨_, _, _, _, _, _⟩) (v := ?_) rfl (by kernel_rfl) (by kernel_rfl) (by kernel_rfl) (by kernel_rfl) (fun _ _ _ h => h) (Or.inl ⟨by rfl, ?_⟩) hS ?_
        rotate_left
        · intro w0 hs; obtain ⟨s1, s2, s3⟩ := hs; go_simp; try (with_reducible rfl)
        try simp only [Act.put, List.setIfInBounds_toArray, List.set_cons_zero, List.set_cons_succ]
        refine wpAnyL_one (i := 16) (oi := ⟨_, _, _, _, _, _⟩) rfl (by kernel_rfl) (fun K hK => ?_)
        rw [if_pos (by rfl)]
        obtain ⟨s1, s2, s3⟩ := hS
        go_simp
        refine hK.out _ _ (.inl rfl) ?_
        clear hK
        try simp only [Act.put, List.setIfInBounds_toArray, List.set_cons_zero, List.set_cons_succ]
        refine wpAnyL_done (by kernel_rfl) ?_ _
        replace L := (L.call s1).set (by omega) (by simp <;> omega) (k / 64) (.int .u64 (wd (a / 2 ^ c % 2 ^ (k + 1)) (k / 64)))
        rw [EC.out] at L
        clear eo EC ck2 ck1 ck0 f2 g0 g1 iw1 iw2 iw3 iw4 iw5 s1 s2 s3 hw1
        go_wp2
        go_roundg (256 - c - (k + 1))
        case measure => omega
        case rel => exact ⟨k + 1, by omega, rfl, by go_num, L⟩
      · obtain rfl : k = 256 - c := by omega
        rw [right_end a c ha hcl] at L
        have hti : ¬ ((256 - c : Nat) : Int) < 256 - (c : Int) := by omega
        obtain ⟨ck2, ck1, ck0, l2, l1, l0⟩ := L.c3'
        have f1 := (L.at (b := w.heap.size + 1) (c := wcs 0) (t := 25) (by simp)).free
        rw [wc_zero] at ck1
        go_wp2
        exact bodyPost_ret (v := wv (a / 2 ^ c)) (by simp [results, Try.results26, go_sem, ck1]) rfl ⟨by rw [HC.out], below_put L.below (by omega)⟩
end Go.Proofs.Ytacgcaebolmpfaa
