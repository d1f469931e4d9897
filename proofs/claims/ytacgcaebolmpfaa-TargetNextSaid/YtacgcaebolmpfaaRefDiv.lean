/- The walks of the reference's Div. -/
import Derived.Test.YtacgcaebolmpfaaDiv
namespace Go.Proofs.Ytacgcaebolmpfaa
open Go.RowKit
set_option linter.unusedSimpArgs false

theorem clampN_one : clampN 1 = 1 := rfl
theorem low_or (m n : Nat) (x : Nat) : bits .or .u64 (wd (2 * m % W256) 0) (bt x n) = wd ((2 * m + x / 2 ^ n % 2) % W256) 0 := by
  have h := or_bit (2 * m % W256) 0 (x / 2 ^ n % 2)
  unfold bt
  rw [wd_eq, wd_eq, or_u64 _ _ (wn_lt _ _) (by omega)]
  congr 1
  have e : (2 * m + x / 2 ^ n % 2) % W256 = (2 * m % W256) + x / 2 ^ n % 2 := by rw [W256_eq]; omega
  rw [e]
  rcases (by omega : x / 2 ^ n % 2 = 0 ∨ x / 2 ^ n % 2 = 1) with h | h <;> rw [h]
  · simp
  · have e2 : 2 * m % W256 = 2 ^ 1 * (m % 2 ^ 255) := by rw [W256_eq]; omega
    rw [e2, Nat.two_pow_add_eq_or_of_lt (by decide), wn_or]; rfl
theorem low_cells (m n : Nat) (x : Nat) : (wcs (2 * m % W256)).setIfInBounds 0 (.int .u64 (wd ((2 * m + x / 2 ^ n % 2) % W256) 0)) = wcs ((2 * m + x / 2 ^ n % 2) % W256) := by
  have far : ∀ k, k < 3 → wd ((2 * m + x / 2 ^ n % 2) % W256) (k + 1) = wd (2 * m % W256) (k + 1) := by
    intro k hk
    unfold wd
    rw [show 2 ^ (64 * (k + 1)) = 2 * 2 ^ (64 * k + 63) from by rw [← Nat.pow_succ']; congr 1, ← Nat.div_div_eq_div_mul, ← Nat.div_div_eq_div_mul]
    congr 3
    rw [W256_eq]; omega
  rw [wcs, wcs, far 0 (by decide), far 1 (by decide), far 2 (by decide)]; rfl
/-- the step of the division: what is below, and what is taken away -/
theorem rdiv_rest (a b n : Nat) (hb : 0 < b) : a / 2 ^ n = 2 * (a / 2 ^ (n + 1)) + a / 2 ^ n % 2 := rdiv_step a b n hb
theorem rdiv_yes {a b n R q S : Nat} (hb : 0 < b) (hbW : b < W256) (hR : R = a / 2 ^ (n + 1) % b) (hq : q = a / 2 ^ (n + 1) / b * 2 ^ (n + 1)) (hS : S = 2 * R + a / 2 ^ n % 2) (hge : b ≤ S) :
    (S % W256 + W256 - b) % W256 = a / 2 ^ n % b ∧ q + 2 ^ n = a / 2 ^ n / b * 2 ^ n := by
  have h1 := rdiv_step a b n hb
  have h2 := Nat.div_add_mod (a / 2 ^ (n + 1)) b
  have h3 := Nat.mod_lt (a / 2 ^ (n + 1)) hb
  rw [← hR] at h2 h3
  have h5 : a / 2 ^ n = b * (2 * (a / 2 ^ (n + 1) / b) + 1) + (S - b) := by
    rw [Nat.mul_add, Nat.mul_one, ← Nat.mul_assoc, Nat.mul_comm b 2, Nat.mul_assoc]; omega
  have h6 : S - b < b := by omega
  have h7 : a / 2 ^ n % b = S - b := by rw [h5, Nat.mul_add_mod, Nat.mod_eq_of_lt h6]
  have h8 : a / 2 ^ n / b = 2 * (a / 2 ^ (n + 1) / b) + 1 := by rw [h5, Nat.mul_add_div hb, Nat.div_eq_of_lt h6, Nat.add_zero]
  constructor
  · rw [h7, W256_eq] at *; omega
  · rw [h8, hq, Nat.pow_succ, Nat.add_mul, Nat.one_mul, Nat.mul_comm 2, Nat.mul_assoc, Nat.mul_comm 2]
theorem rdiv_no {a b n R q S : Nat} (hb : 0 < b) (hbW : b < W256) (hR : R = a / 2 ^ (n + 1) % b) (hq : q = a / 2 ^ (n + 1) / b * 2 ^ (n + 1)) (hS : S = 2 * R + a / 2 ^ n % 2) (hge : ¬ b ≤ S) :
    S % W256 = a / 2 ^ n % b ∧ q = a / 2 ^ n / b * 2 ^ n := by
  have h1 := rdiv_step a b n hb
  have h2 := Nat.div_add_mod (a / 2 ^ (n + 1)) b
  rw [← hR] at h2
  have h5 : a / 2 ^ n = b * (2 * (a / 2 ^ (n + 1) / b)) + S := by
    rw [← Nat.mul_assoc, Nat.mul_comm b 2, Nat.mul_assoc]; omega
  have h7 : a / 2 ^ n % b = S := by rw [h5, Nat.mul_add_mod, Nat.mod_eq_of_lt (Nat.lt_of_not_le hge)]
  have h8 : a / 2 ^ n / b = 2 * (a / 2 ^ (n + 1) / b) := by rw [h5, Nat.mul_add_div hb, Nat.div_eq_of_lt (Nat.lt_of_not_le hge), Nat.add_zero]
  constructor
  · rw [h7, W256_eq] at *; omega
  · rw [h8, hq, Nat.pow_succ, Nat.mul_comm 2, Nat.mul_assoc, Nat.mul_comm 2]
theorem bt255 (R : Nat) (h : R < W256) : bt R 255 = if W256 ≤ 2 * R then 1 else 0 := by
  unfold bt; rw [W256_eq] at *; split <;> omega

set_option maxRecDepth 100000 in
set_option maxHeartbeats 800000 in
theorem rdiv0 (a : Nat) (w : World) :
    Calls Try.prog 36 #[wv a, wv 0] w fun e w' => e = .returned (.tuple #[wv 0, wv 0, .int .i64 30]) ∧ Below w.heap.size w w' := by
  have q := weql 0 0 W_pos W_pos
  rw [beq_self_eq_true, wv_zero] at q
  rw [wv_zero]
  go_enter Try.func36, Try.ntmps36
  go_wp2
  exact bodyPost_ret (v := .tuple #[.agg #[.int .u64 0, .int .u64 0, .int .u64 0, .int .u64 0], .agg #[.int .u64 0, .int .u64 0, .int .u64 0, .int .u64 0], .int .i64 30]) (by simp [results, Try.results36, go_sem]) rfl
    ⟨rfl, ((((Below.refl w.heap.size w).alloc (Nat.le_refl _) _).alloc (by simp) _).alloc (by simp; omega) _).alloc (by simp; omega) _⟩

set_option maxRecDepth 100000 in
set_option maxHeartbeats 1600000 in
theorem rdiv (a b : Nat) (w : World) (ha : a < W256) (hb : b < W256) (hz : b ≠ 0) :
    Calls Try.prog 36 #[wv a, wv b] w fun e w' => e = .returned (.tuple #[wv (a / b), wv (a % b), .int .i64 0]) ∧ Below w.heap.size w w' := by
  have q := weql b 0 hb W_pos
  rw [show (b == 0) = false from by simpa using hz, wv_zero] at q
  have L := ((St.new4 w (wcs a) (wcs b) (wcs 0) (wcs 0) 25 25 25 25).new (wcs 0) 25).new (wcs 0) 25
  rw [show ((((w.alloc (.cells (wcs a) 25)).alloc (.cells (wcs b) 25)).alloc (.cells (wcs 0) 25)).alloc (.cells (wcs 0) 25)).heap.size = w.heap.size + 1 + 1 + 1 + 1 from by simp] at L
  rw [show (((((w.alloc (.cells (wcs a) 25)).alloc (.cells (wcs b) 25)).alloc (.cells (wcs 0) 25)).alloc (.cells (wcs 0) 25)).alloc (.cells (wcs 0) 25)).heap.size = w.heap.size + 1 + 1 + 1 + 1 + 1 from by simp] at L
  have hb0 : 0 < b := Nat.pos_of_ne_zero hz
  go_enter Try.func36, Try.ntmps36
  go_upto_region 4 with fail
  rw [wc_zero] at L
  generalize (((((w.alloc (.cells #[.int .u64 (wd a 0), .int .u64 (wd a 1), .int .u64 (wd a 2), .int .u64 (wd a 3)] 25)).alloc (.cells #[.int .u64 (wd b 0), .int .u64 (wd b 1), .int .u64 (wd b 2), .int .u64 (wd b 3)] 25)).alloc (.cells #[.int .u64 0, .int .u64 0, .int .u64 0, .int .u64 0] 25)).alloc (.cells #[.int .u64 0, .int .u64 0, .int .u64 0, .int .u64 0] 25)).alloc (.cells #[.int .u64 0, .int .u64 0, .int .u64 0, .int .u64 0] 25)).alloc (.cells #[.int .u64 0, .int .u64 0, .int .u64 0, .int .u64 0] 25) = v at *
  rw [← wc_zero] at L
  clear q
  go_wp2
  go_loopg [9] 256 (fun m i wx => ∃ (R q : Nat) (z : Int), i = .int .i64 z ∧ -1 ≤ z ∧ z ≤ 255 ∧ m = (z + 1).toNat ∧ Hid (R = a / 2 ^ (z + 1).toNat % b ∧ q = a / 2 ^ (z + 1).toNat / b * 2 ^ (z + 1).toNat) ∧ St w.heap.size w wx [(w.heap.size + 1 + 1 + 1 + 1 + 1, wcs R, 25), (w.heap.size + 1 + 1 + 1 + 1, wcs q, 25), (w.heap.size + 1 + 1 + 1, wcs 0, 25), (w.heap.size + 1 + 1, wcs 0, 25), (w.heap.size + 1, wcs b, 25), (w.heap.size, wcs a, 25)])

  case atStart =>
    refine ⟨0, 0, 255, rfl, by decide, by decide, rfl, ⟨?_, ?_⟩, L⟩
    · rw [show ((255 : Int) + 1).toNat = 256 from rfl, Nat.div_eq_of_lt (by rw [W256_eq] at ha; exact ha), Nat.zero_mod]
    · rw [show ((255 : Int) + 1).toNat = 256 from rfl, show a / 2 ^ 256 = 0 from Nat.div_eq_of_lt (by rw [W256_eq] at ha; exact ha), Nat.zero_div, Nat.zero_mul]
  case round =>
    clear L
    obtain ⟨R, q, z, rfl, hz1, hz2, rfl, H, L⟩ := hrel
    by_cases hz0 : 0 ≤ z
    · obtain ⟨n, rfl⟩ := Int.eq_ofNat_of_zero_le hz0
      rw [show ((n : Int) + 1).toNat = n + 1 from by omega] at H
      have hn256 : n < 256 := by omega
      have hRW : R < W256 := by rw [H.out.1]; exact Nat.lt_trans (Nat.mod_lt _ hb0) hb
      have RB := L.at (b := w.heap.size + 1 + 1 + 1 + 1 + 1) (c := wcs R) (t := 25) (by simp)
      have r1 := RB.cell
      go_wp2_with fail
      refine (rbit R 255 _ (by decide)).mono ?_
      rintro e w1 ⟨rfl, hw1⟩
      replace L := L.call hw1
      clear RB r1
      have RB := L.at (b := w.heap.size + 1 + 1 + 1 + 1 + 1) (c := wcs R) (t := 25) (by simp)
      have r1 := RB.cell
      have r2 := RB.free
      go_wp2_with fail
      refine (rleft R 1 _).mono ?_
      rintro e w2 ⟨rfl, hw2⟩
      rw [clampN_one, show R * 2 ^ 1 = 2 * R from by omega]
      replace L := L.call hw2
      clear RB r1 r2
      have RB := L.at (b := w.heap.size + 1 + 1 + 1 + 1 + 1) (c := wcs R) (t := 25) (by simp)
      have r1 := RB.cell
      have r2 := RB.free
      go_upto_region 9 with fail
      replace L := L.put (n := 2 * R % W256) (by omega) (by simp <;> omega)
      generalize (((w2.setCell ⟨w.heap.size + 1 + 1 + 1 + 1 + 1, 0, none⟩ (.int .u64 (wd (2 * R % W256) 0))).setCell ⟨w.heap.size + 1 + 1 + 1 + 1 + 1, 1, none⟩ (.int .u64 (wd (2 * R % W256) 1))).setCell ⟨w.heap.size + 1 + 1 + 1 + 1 + 1, 2, none⟩ (.int .u64 (wd (2 * R % W256) 2))).setCell ⟨w.heap.size + 1 + 1 + 1 + 1 + 1, 3, none⟩ (.int .u64 (wd (2 * R % W256) 3)) = wr at *
      clear RB r1 r2 hw1 hw2
      have RB := L.at (b := w.heap.size + 1 + 1 + 1 + 1 + 1) (c := wcs (2 * R % W256)) (t := 25) (by simp)
      have r1 := RB.cell
      have r2 := RB.free
      have l1 := RB.lt
      have AB := L.at (b := w.heap.size) (c := wcs a) (t := 25) (by simp)
      have a1 := AB.cell
      have l2 := AB.lt
      have eo := low_or R n a
      have EC := Lib.hid (low_cells R n a)
      refine wp_region_last 7 (fun w' => Below wr.heap.size wr w' ∧ (∀ b o, b < wr.heap.size → w'.cell? ⟨b, o, none⟩ = wr.cell? ⟨b, o, none⟩) ∧ (∀ b o, b < wr.heap.size → w'.frozen? ⟨b, o, none⟩ = wr.frozen? ⟨b, o, none⟩)) (by kernel_rfl) (SF.start wr) (fun hS => ?_)
      refine wpAnyL_take (i := 0) (oi := ⟨_, _, _, _, _, _⟩) (v := ?_) rfl (by kernel_rfl) (by kernel_rfl) (by kernel_rfl) (by kernel_rfl) (fun _ _ _ h => h) (Or.inl ⟨by rfl, ?_⟩) hS ?_
      rotate_left
      · intro w0 hs; obtain ⟨s1, s2, s3⟩ := hs; go_simp; try (with_reducible rfl)
      try simp only [Act.put, List.setIfInBounds_toArray, List.set_cons_zero, List.set_cons_succ]
      refine wpAnyL_take (i := 1) (oi := ⟨_, _, _, _, _, _⟩) (v := ?_) rfl (by kernel_rfl) (by kernel_rfl) (by kernel_rfl) (by kernel_rfl) (fun _ _ _ h => h) (Or.inl ⟨by rfl, ?_⟩) hS ?_
      rotate_left
      · intro w0 hs; obtain ⟨s1, s2, s3⟩ := hs; go_simp; try (with_reducible rfl)
      try simp only [Act.put, List.setIfInBounds_toArray, List.set_cons_zero, List.set_cons_succ]
      refine wpAnyL_take (i := 2) (oi := ⟨_, _, _, _, _, _⟩) (v := ?_) rfl (by kernel_rfl) (by kernel_rfl) (by kernel_rfl) (by kernel_rfl) (fun _ _ _ h => h) (Or.inl ⟨by rfl, ?_⟩) hS ?_
      rotate_left
      · intro w0 hs; obtain ⟨s1, s2, s3⟩ := hs; go_simp; try (with_reducible rfl)
      try simp only [Act.put, List.setIfInBounds_toArray, List.set_cons_zero, List.set_cons_succ]
      refine wpAnyL_take (i := 3) (oi := ⟨_, _, _, _, _, _⟩) (v := ?_) rfl (by kernel_rfl) (by kernel_rfl) (by kernel_rfl) (by kernel_rfl) (fun _ _ _ h => h) (Or.inl ⟨by rfl, ?_⟩) hS ?_
      rotate_left
      · intro w0 hs; obtain ⟨s1, s2, s3⟩ := hs; go_simp; try (with_reducible rfl)
      try simp only [Act.put, List.setIfInBounds_toArray, List.set_cons_zero, List.set_cons_succ]
      refine wpAnyL_one (i := 4) (oi := ⟨_, _, _, _, _, _⟩) rfl (by kernel_rfl) (fun K hK => ?_)
      rw [if_pos (by rfl)]
      go_step
      refine (rbit a n _ hn256).mono ?_
      rintro e w1 ⟨rfl, hw1⟩
      simp only []
      have hS' := (SF.keep hS hw1)
      refine hK.out _ _ (.inr hS') ?_
      clear hS hK
      have hS := hS'; clear hS'
      try simp only [Act.put, List.setIfInBounds_toArray, List.set_cons_zero, List.set_cons_succ]
      refine wpAnyL_take (i := 5) (oi := ⟨_, _, _, _, _, _⟩) (v := ?_) rfl (by kernel_rfl) (by kernel_rfl) (by kernel_rfl) (by kernel_rfl) (fun _ _ _ h => h) (Or.inl ⟨by rfl, ?_⟩) hS ?_
      rotate_left
      · intro w0 hs; obtain ⟨s1, s2, s3⟩ := hs; go_simp; try (with_reducible rfl)
      try simp only [Act.put, List.setIfInBounds_toArray, List.set_cons_zero, List.set_cons_succ]
      refine wpAnyL_take (i := 6) (oi := ⟨_, _, _, _, _, _⟩) (v := ?_) rfl (by kernel_rfl) (by kernel_rfl) (by kernel_rfl) (by kernel_rfl) (fun _ _ _ h => h) (Or.inl ⟨by rfl, ?_⟩) hS ?_
      rotate_left
      · intro w0 hs; obtain ⟨s1, s2, s3⟩ := hs; go_simp; try (with_reducible rfl)
      try simp only [Act.put, List.setIfInBounds_toArray, List.set_cons_zero, List.set_cons_succ]
      refine wpAnyL_one (i := 7) (oi := ⟨_, _, _, _, _, _⟩) rfl (by kernel_rfl) (fun K hK => ?_)
      rw [if_pos (by rfl)]
      obtain ⟨s1, s2, s3⟩ := hS
      go_simp
      refine hK.out _ _ (.inl rfl) ?_
      clear hK
      try simp only [Act.put, List.setIfInBounds_toArray, List.set_cons_zero, List.set_cons_succ]
      refine wpAnyL_done (by kernel_rfl) ?_ _
      clear r1 r2 l1 a1 l2 AB RB eo s2 s3 K
      replace L := (L.call s1).set (by omega) (by simp <;> omega) 0 (.int .u64 (wd ((2 * R + a / 2 ^ n % 2) % W256) 0))
      rw [EC.out] at L
      clear s1 hw1 EC
      generalize hS : 2 * R + a / 2 ^ n % 2 = S at *
      generalize w1.setCell ⟨w.heap.size + 1 + 1 + 1 + 1 + 1, 0, none⟩ (.int .u64 (wd (S % W256) 0)) = w3 at *
      have HS := Lib.hid hS
      clear hS
      have hSm := mod_W S
      have RB := L.at (b := w.heap.size + 1 + 1 + 1 + 1 + 1) (c := wcs (S % W256)) (t := 25) (by simp)
      have r1 := RB.cell
      have r2 := RB.free
      have BB := L.at (b := w.heap.size + 1) (c := wcs b) (t := 25) (by simp)
      have b1 := BB.cell
      by_cases hi : W256 ≤ 2 * R
      · rw [show bt R 255 = 1 from by rw [bt255 R hRW, if_pos hi]]
        go_wp2_with fail
        have hge : b ≤ S := by have := HS.out; omega
        have HY := Lib.hid (rdiv_yes hb0 hb H.out.1 H.out.2 HS.out.symm hge)
        refine (rsub (S % W256) b _ hSm hb).mono ?_
        rintro e w5 ⟨rfl, hw5⟩
        rw [HY.out.1]
        replace L := L.call hw5
        clear RB r1 r2 BB b1
        have RB := L.at (b := w.heap.size + 1 + 1 + 1 + 1 + 1) (c := wcs (S % W256)) (t := 25) (by simp)
        have r1 := RB.cell
        have r2 := RB.free
        go_upto_region 12 with fail
        replace L := L.put (n := a / 2 ^ n % b) (by omega) (by simp <;> omega)
        generalize hR2 : a / 2 ^ n % b = R2 at *
        have HR2 := Lib.hid hR2
        clear hR2
        generalize (((w5.setCell ⟨w.heap.size + 1 + 1 + 1 + 1 + 1, 0, none⟩ (.int .u64 (wd R2 0))).setCell ⟨w.heap.size + 1 + 1 + 1 + 1 + 1, 1, none⟩ (.int .u64 (wd R2 1))).setCell ⟨w.heap.size + 1 + 1 + 1 + 1 + 1, 2, none⟩ (.int .u64 (wd R2 2))).setCell ⟨w.heap.size + 1 + 1 + 1 + 1 + 1, 3, none⟩ (.int .u64 (wd R2 3)) = w6 at *
        replace L := L.perm (l' := [(w.heap.size + 1 + 1 + 1 + 1, wcs q, 25), (w.heap.size + 1 + 1 + 1 + 1 + 1, wcs R2, 25), (w.heap.size + 1 + 1 + 1, wcs 0, 25), (w.heap.size + 1 + 1, wcs 0, 25), (w.heap.size + 1, wcs b, 25), (w.heap.size, wcs a, 25)]) (by simp)
        clear RB r1 r2 hw5
        have Q := L.at (b := w.heap.size + 1 + 1 + 1 + 1) (c := wcs q) (t := 25) (by simp)
        have q1 := Q.cell
        have q2 := Q.free
        have e3 : q % 2 ^ (n + 1) = 0 := by rw [H.out.2]; exact Nat.mul_mod_left _ _
        have eo := or_high q n e3
        have EC := Lib.hid (cells_high q n e3 hn256)
        have g0 := wd_get q (n / 64) (by omega)
        have g1 := wd_at q (n / 64) (by omega)
        have k0 : (0 : Int) ≤ (n : Int) / 64 := by omega
        have k1 : (n : Int) / 64 < 4 := by omega
        clear e3
        go_region
        replace L := L.set (by omega) (by simp <;> omega) (n / 64) (.int .u64 (wd (q + 2 ^ n) (n / 64)))
        rw [EC.out] at L
        clear eo EC g0 g1 q1 q2 k0 k1 Q
        replace L := L.perm (l' := [(w.heap.size + 1 + 1 + 1 + 1 + 1, wcs R2, 25), (w.heap.size + 1 + 1 + 1 + 1, wcs (q + 2 ^ n), 25), (w.heap.size + 1 + 1 + 1, wcs 0, 25), (w.heap.size + 1 + 1, wcs 0, 25), (w.heap.size + 1, wcs b, 25), (w.heap.size, wcs a, 25)]) (by simp)
        go_wp2
        go_roundg n
        case measure => omega
        case rel => exact ⟨R2, q + 2 ^ n, (n : Int) - 1, rfl, by omega, by omega, by omega, ⟨by rw [show ((n : Int) - 1 + 1).toNat = n from by omega]; exact HR2.out.symm, by rw [show ((n : Int) - 1 + 1).toNat = n from by omega]; exact HY.out.2⟩, L.drew⟩
      · rw [show bt R 255 = 0 from by rw [bt255 R hRW, if_neg hi]]
        have hSS : S < W256 := by have := HS.out; rw [W256_eq] at *; omega
        go_wp2_with fail
        refine (rcmp (S % W256) b _ hSm hb).mono ?_
        rintro e w4 ⟨rfl, hw4⟩
        replace L := L.call hw4
        clear RB r1 r2 BB b1
        have RB := L.at (b := w.heap.size + 1 + 1 + 1 + 1 + 1) (c := wcs (S % W256)) (t := 25) (by simp)
        have r1 := RB.cell
        have r2 := RB.free
        have BB := L.at (b := w.heap.size + 1) (c := wcs b) (t := 25) (by simp)
        have b1 := BB.cell
        by_cases hge : b ≤ S
        · have hc : (0 : Int) ≤ cmpN (S % W256) b := by unfold cmpN; rw [Nat.mod_eq_of_lt hSS, if_neg (by omega)]; split <;> decide
          go_wp2_with fail
          have HY := Lib.hid (rdiv_yes hb0 hb H.out.1 H.out.2 HS.out.symm hge)
          refine (rsub (S % W256) b _ hSm hb).mono ?_
          rintro e w5 ⟨rfl, hw5⟩
          rw [HY.out.1]
          replace L := L.call hw5
          clear RB r1 r2 BB b1
          have RB := L.at (b := w.heap.size + 1 + 1 + 1 + 1 + 1) (c := wcs (S % W256)) (t := 25) (by simp)
          have r1 := RB.cell
          have r2 := RB.free
          go_upto_region 12 with fail
          replace L := L.put (n := a / 2 ^ n % b) (by omega) (by simp <;> omega)
          generalize hR2 : a / 2 ^ n % b = R2 at *
          have HR2 := Lib.hid hR2
          clear hR2
          generalize (((w5.setCell ⟨w.heap.size + 1 + 1 + 1 + 1 + 1, 0, none⟩ (.int .u64 (wd R2 0))).setCell ⟨w.heap.size + 1 + 1 + 1 + 1 + 1, 1, none⟩ (.int .u64 (wd R2 1))).setCell ⟨w.heap.size + 1 + 1 + 1 + 1 + 1, 2, none⟩ (.int .u64 (wd R2 2))).setCell ⟨w.heap.size + 1 + 1 + 1 + 1 + 1, 3, none⟩ (.int .u64 (wd R2 3)) = w6 at *
          replace L := L.perm (l' := [(w.heap.size + 1 + 1 + 1 + 1, wcs q, 25), (w.heap.size + 1 + 1 + 1 + 1 + 1, wcs R2, 25), (w.heap.size + 1 + 1 + 1, wcs 0, 25), (w.heap.size + 1 + 1, wcs 0, 25), (w.heap.size + 1, wcs b, 25), (w.heap.size, wcs a, 25)]) (by simp)
          clear RB r1 r2 hw5
          have Q := L.at (b := w.heap.size + 1 + 1 + 1 + 1) (c := wcs q) (t := 25) (by simp)
          have q1 := Q.cell
          have q2 := Q.free
          have e3 : q % 2 ^ (n + 1) = 0 := by rw [H.out.2]; exact Nat.mul_mod_left _ _
          have eo := or_high q n e3
          have EC := Lib.hid (cells_high q n e3 hn256)
          have g0 := wd_get q (n / 64) (by omega)
          have g1 := wd_at q (n / 64) (by omega)
          have k0 : (0 : Int) ≤ (n : Int) / 64 := by omega
          have k1 : (n : Int) / 64 < 4 := by omega
          clear e3
          go_region
          replace L := L.set (by omega) (by simp <;> omega) (n / 64) (.int .u64 (wd (q + 2 ^ n) (n / 64)))
          rw [EC.out] at L
          clear eo EC g0 g1 q1 q2 k0 k1 Q
          replace L := L.perm (l' := [(w.heap.size + 1 + 1 + 1 + 1 + 1, wcs R2, 25), (w.heap.size + 1 + 1 + 1 + 1, wcs (q + 2 ^ n), 25), (w.heap.size + 1 + 1 + 1, wcs 0, 25), (w.heap.size + 1 + 1, wcs 0, 25), (w.heap.size + 1, wcs b, 25), (w.heap.size, wcs a, 25)]) (by simp)
          go_wp2
          go_roundg n
          case measure => omega
          case rel => exact ⟨R2, q + 2 ^ n, (n : Int) - 1, rfl, by omega, by omega, by omega, ⟨by rw [show ((n : Int) - 1 + 1).toNat = n from by omega]; exact HR2.out.symm, by rw [show ((n : Int) - 1 + 1).toNat = n from by omega]; exact HY.out.2⟩, L.drew⟩
        · have hc : ¬ (0 : Int) ≤ cmpN (S % W256) b := by unfold cmpN; rw [Nat.mod_eq_of_lt hSS, if_pos (by omega)]; decide
          clear RB r1 r2 BB b1
          have HY := Lib.hid (rdiv_no hb0 hb H.out.1 H.out.2 HS.out.symm hge)
          go_wp2
          go_roundg n
          case measure => omega
          case rel => exact ⟨S % W256, q, (n : Int) - 1, rfl, by omega, by omega, by omega, ⟨by rw [show ((n : Int) - 1 + 1).toNat = n from by omega]; exact HY.out.1, by rw [show ((n : Int) - 1 + 1).toNat = n from by omega]; exact HY.out.2⟩, L⟩
    · have H' := H.out
      rw [show (z + 1).toNat = 0 from by omega, Nat.pow_zero, Nat.div_one, Nat.mul_one] at H'
      obtain ⟨d1, d2⟩ := H'
      subst d1 d2
      clear H
      have hz' : ¬ (0 : Int) ≤ z := hz0
      have Q := L.at (b := w.heap.size + 1 + 1 + 1 + 1) (c := wcs (a / b)) (t := 25) (by simp)
      have R := L.at (b := w.heap.size + 1 + 1 + 1 + 1 + 1) (c := wcs (a % b)) (t := 25) (by simp)
      have T4 := L.at (b := w.heap.size + 1 + 1) (c := wcs 0) (t := 25) (by simp)
      have T5 := L.at (b := w.heap.size + 1 + 1 + 1) (c := wcs 0) (t := 25) (by simp)
      have q1 := Q.cell
      have r1 := R.cell
      have t1 := T4.cell
      have t2 := T4.free
      have t3 := T5.cell
      have t4 := T5.free
      rw [wc_zero] at t1 t3
      generalize hqq : a / b = qq at *
      generalize hrr : a % b = rr at *
      have HQ := Lib.hid hqq
      have HR := Lib.hid hrr
      clear hqq hrr
      go_upto_region 13 with fail
      go_region
      have L1 := (L.perm (l' := [(w.heap.size + 1 + 1, wcs 0, 25), (w.heap.size + 1 + 1 + 1, wcs 0, 25)]) (by simp)).put (n := qq) (by omega) (by simp <;> omega)
      have L2 := ((L1.perm (l' := [(w.heap.size + 1 + 1 + 1, wcs 0, 25), (w.heap.size + 1 + 1, wcs qq, 25)]) (by simp)).put (n := rr) (by omega) (by simp <;> omega)).drew
      have c5 := (L2.at (b := w.heap.size + 1 + 1 + 1) (c := wcs rr) (t := 25) (by simp)).cell
      have c4 := (L2.at (b := w.heap.size + 1 + 1) (c := wcs qq) (t := 25) (by simp)).cell
      go_wp2
      exact bodyPost_ret (v := .tuple #[wv qq, wv rr, .int .i64 0]) (by simp [results, Try.results36, go_sem, c4, c5]) rfl ⟨by rw [HQ.out, HR.out], L2.below⟩
end Go.Proofs.Ytacgcaebolmpfaa
