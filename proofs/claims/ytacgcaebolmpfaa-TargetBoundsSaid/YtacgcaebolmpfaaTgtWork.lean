/- The walks of layer 4's Work. -/
import Derived.Test.YtacgcaebolmpfaaTgtLawA
namespace Go.Proofs.Ytacgcaebolmpfaa
open Go.RowKit
set_option linter.unusedSimpArgs false

/-- how much work a target stands for -/
def wrk (t : Nat) : Nat := if t = 0 then 0 else (W256 - 1 - t) / (t + 1) + 1
theorem wrk_pos {t : Nat} (h : t ≠ 0) : wrk t = (W256 - 1 - t) / (t + 1) + 1 := if_neg h
theorem wrk_lt (t : Nat) : wrk t < W256 := by
  unfold wrk; split
  · exact W_pos
  · have h1 := Nat.div_le_self (W256 - 1 - t) (t + 1)
    have := one_W
    omega
theorem wrk_q {t : Nat} (h : t ≠ 0) : (W256 - 1 - t) / (t + 1) + 1 < W256 := by rw [← wrk_pos h]; exact wrk_lt t
theorem wrk_max : wrk (W256 - 1) = 1 := by
  have := one_W
  rw [wrk_pos (by omega), show W256 - 1 - (W256 - 1) = 0 from by omega, Nat.zero_div]

set_option maxRecDepth 100000 in
set_option maxHeartbeats 1600000 in
theorem wwork (b : Nat) (w : World) (hb : b < 2 ^ 32) :
    Calls Try.prog 18 #[.int .u32 (b : Int)] w fun e w' => e = .returned (.tuple #[wv (wrk (tgt b)), .int .i64 (tErr (tgt b))]) ∧ Below w.heap.size w w' := by
  have p1 := fun w => wexpand b w hb
  have ht := tgt_lt b
  generalize tgt b = t at *
  have p2 := fun w => wadd t 1 w ht one_W
  have L := (St.refl w).new (wcs 0) 25
  rw [wc_zero] at L
  by_cases hz : t = 0
  · subst hz
    rw [wv_zero, tErr_zero] at p1
    have P1 := Lib.hid p1
    clear p1 p2
    go_enter Try.func18, Try.ntmps18
    go_wp2_with fail
    refine (P1.out _).mono ?_
    rintro e' w1 ⟨rfl, hw1⟩
    replace L := (L.call hw1).new (wcs 0) 25
    rw [wc_zero] at L
    clear hw1
    go_upto_region 3 with fail
    generalize hg : w1.alloc (.cells #[.int .u64 0, .int .u64 0, .int .u64 0, .int .u64 0] 25) = v at *
    clear hg
    have T2 := L.at (b := w.heap.size) (c := #[.int .u64 0, .int .u64 0, .int .u64 0, .int .u64 0]) (t := 25) (by simp)
    have t3 := T2.cell
    have t4 := T2.free
    have L1 := L.below
    go_wp2
    have c4 := (Blk.set4 (y0 := .int .u64 0) (y1 := .int .u64 0) (y2 := .int .u64 0) (y3 := .int .u64 0) T2).cell
    exact bodyPost_ret (v := .tuple #[.agg #[.int .u64 0, .int .u64 0, .int .u64 0, .int .u64 0], .int .i64 40]) (by simp [results, Try.results18, go_sem, c4]) rfl
      ⟨by rw [show wrk 0 = 0 from rfl, wv_zero]; rfl, (((L1.setCell (by dsimp only; omega) _).setCell (by dsimp only; omega) _).setCell (by dsimp only; omega) _).setCell (by dsimp only; omega) _⟩
  · rw [tErr_pos hz] at p1 ⊢
    have P1 := Lib.hid p1
    rw [wv_one] at p2
    by_cases ho : W256 ≤ t + 1
    · have htt : t = W256 - 1 := by omega
      have HW := Lib.hid (show wrk t = 1 from by rw [htt]; exact wrk_max)
      rw [decide_eq_true ho] at p2
      generalize (t + 1) % W256 = n at *
      have P2 := Lib.hid p2
      clear p1 p2 htt ho hz
      go_enter Try.func18, Try.ntmps18
      go_wp2_with fail
      refine (P1.out _).mono ?_
      rintro e' w1 ⟨rfl, hw1⟩
      replace L := ((L.call hw1).new (wcs t) 25).new #[.int .u64 1, .int .u64 0, .int .u64 0, .int .u64 0] 25
      rw [show (w1.alloc (.cells (wcs t) 25)).heap.size = w1.heap.size + 1 from by simp] at L
      clear hw1
      go_upto_region 5 with fail
      generalize hg : (w1.alloc (.cells #[.int .u64 (wd t 0), .int .u64 (wd t 1), .int .u64 (wd t 2), .int .u64 (wd t 3)] 25)).alloc (.cells #[.int .u64 1, .int .u64 0, .int .u64 0, .int .u64 0] 25) = v at *
      generalize w1.heap.size = g at *
      clear hg
      obtain ⟨c1, c0, l1, l0⟩ := L.c2
      go_wp2_with fail
      refine (P2.out _).mono ?_
      rintro e' w2 ⟨rfl, hw2⟩
      replace L := (L.call hw2).new (wcs n) 25
      clear hw2 c1 c0 l1 l0
      go_upto_region 7 with fail
      generalize hg : w2.alloc (.cells #[.int .u64 (wd n 0), .int .u64 (wd n 1), .int .u64 (wd n 2), .int .u64 (wd n 3)] 25) = v2 at *
      generalize w2.heap.size = g2 at *
      clear hg
      have O := L.at (b := g + 1) (c := #[.int .u64 1, .int .u64 0, .int .u64 0, .int .u64 0]) (t := 25) (by simp)
      have o1 := O.cell
      have T2 := L.at (b := w.heap.size) (c := #[.int .u64 0, .int .u64 0, .int .u64 0, .int .u64 0]) (t := 25) (by simp)
      have t3 := T2.cell
      have t4 := T2.free
      have L1 := L.below
      go_wp2
      have c4 := (Blk.set4 (y0 := .int .u64 1) (y1 := .int .u64 0) (y2 := .int .u64 0) (y3 := .int .u64 0) T2).cell
      exact bodyPost_ret (v := .tuple #[.agg #[.int .u64 1, .int .u64 0, .int .u64 0, .int .u64 0], .int .i64 0]) (by simp [results, Try.results18, go_sem, c4]) rfl
        ⟨by rw [HW.out, wv_one], (((L1.setCell (by dsimp only; omega) _).setCell (by dsimp only; omega) _).setCell (by dsimp only; omega) _).setCell (by dsimp only; omega) _⟩
    · have HW := Lib.hid (wrk_pos hz)
      have hq := wrk_q hz
      rw [decide_eq_false ho, Nat.mod_eq_of_lt (by omega)] at p2
      have hn : t + 1 < W256 := by omega
      have p3 := fun w => wdiv (W256 - 1 - t) (t + 1) w (not_lt_W t) hn (by omega)
      have p4 := fun w => wadd ((W256 - 1 - t) / (t + 1)) 1 w (by omega) one_W
      rw [Nat.mod_eq_of_lt hq, wv_one] at p4
      generalize decide (W256 ≤ (W256 - 1 - t) / (t + 1) + 1) = ov at *
      generalize (W256 - 1 - t) / (t + 1) = q at *
      generalize (W256 - 1 - t) % (t + 1) = r at *
      have nw := not_wd t
      generalize hx : W256 - 1 - t = x at *
      generalize t + 1 = n at *
      have hxW : x < W256 := by rw [← hx]; exact not_lt_W t
      have P2 := Lib.hid p2
      have P3 := Lib.hid p3
      have P4 := Lib.hid p4
      have NW := Lib.hid (fun k (hk : k < 4) => nw k ht hk)
      clear p1 p2 p3 p4 ho hz nw hx
      go_enter Try.func18, Try.ntmps18
      go_wp2_with fail
      refine (P1.out _).mono ?_
      rintro e' w1 ⟨rfl, hw1⟩
      have LH := Lib.hid ((L.call hw1).at (b := w.heap.size) (c := #[.int .u64 0, .int .u64 0, .int .u64 0, .int .u64 0]) (t := 25) (by simp)).lt
      replace L := ((L.call hw1).new (wcs t) 25).new #[.int .u64 1, .int .u64 0, .int .u64 0, .int .u64 0] 25
      rw [show (w1.alloc (.cells (wcs t) 25)).heap.size = w1.heap.size + 1 from by simp] at L
      clear hw1
      go_upto_region 5 with fail
      generalize hg : (w1.alloc (.cells #[.int .u64 (wd t 0), .int .u64 (wd t 1), .int .u64 (wd t 2), .int .u64 (wd t 3)] 25)).alloc (.cells #[.int .u64 1, .int .u64 0, .int .u64 0, .int .u64 0] 25) = v at *
      generalize w1.heap.size = g at *
      clear hg
      obtain ⟨c1, c0, l1, l0⟩ := L.c2
      go_wp2_with fail
      refine (P2.out _).mono ?_
      rintro e' w2 ⟨rfl, hw2⟩
      have LG := Lib.hid ((L.call hw2).at (b := g + 1) (c := #[.int .u64 1, .int .u64 0, .int .u64 0, .int .u64 0]) (t := 25) (by simp)).lt
      replace L := ((L.call hw2).new (wcs n) 25).new #[.int .u64 0, .int .u64 0, .int .u64 0, .int .u64 0] 25
      rw [show (w2.alloc (.cells (wcs n) 25)).heap.size = w2.heap.size + 1 from by simp] at L
      clear hw2 c1 c0 l1 l0
      go_upto_region 9 with fail
      have lg : g + 1 < w2.heap.size := LG.out
      have lh : w.heap.size < g := by have h := LH.out; omega
      generalize hg : (w2.alloc (.cells #[.int .u64 (wd n 0), .int .u64 (wd n 1), .int .u64 (wd n 2), .int .u64 (wd n 3)] 25)).alloc (.cells #[.int .u64 0, .int .u64 0, .int .u64 0, .int .u64 0] 25) = v2 at *
      generalize w2.heap.size = g2 at *
      clear hg
      have T := L.at (b := g) (c := wcs t) (t := 25) (by simp)
      have t1 := T.cell
      go_wp2
      clear T t1
      go_loopg [35] 4 (fun m i wx => ∃ k : Nat, k ≤ 4 ∧ i = .int .i64 k ∧ m = 4 - k ∧ St w.heap.size w wx [(g2 + 1, wcs (x % 2 ^ (64 * k)), 25), (g2, wcs n, 25), (g + 1, #[.int .u64 1, .int .u64 0, .int .u64 0, .int .u64 0], 25), (g, wcs t, 25), (w.heap.size, #[.int .u64 0, .int .u64 0, .int .u64 0, .int .u64 0], 25)])
      case atStart => exact ⟨0, by omega, rfl, rfl, by rw [Nat.mul_zero, Nat.pow_zero, Nat.mod_one, wc_zero]; exact L⟩
      case round =>
        clear L
        obtain ⟨k, hk, rfl, rfl, L⟩ := hrel
        by_cases hlt : k < 4
        · have g0 := wix t k hlt
          have nk := NW.out k hlt
          have A := L.at (b := g2 + 1) (c := wcs (x % 2 ^ (64 * k))) (t := 25) (by simp)
          have a1 := A.cell
          have a2 := A.free
          have g1 := wd_get (x % 2 ^ (64 * k)) k hlt
          have g3 := wd_at (x % 2 ^ (64 * k)) k hlt
          go_wp2
          replace L := L.set (by omega) (by simp <;> omega) k (.int .u64 (wd x k))
          rw [wc_step _ _ hlt] at L
          clear A a1 a2 g0 g1 g3 nk
          go_roundg (4 - (k + 1))
          case measure => omega
          case rel => exact ⟨k + 1, by omega, by go_num, rfl, L⟩
        · obtain rfl : k = 4 := by omega
          rw [show 64 * 4 = 256 from rfl, Nat.mod_eq_of_lt (by rw [W256_eq] at hxW; exact hxW)] at L
          have A := L.at (b := g2 + 1) (c := wcs x) (t := 25) (by simp)
          have a1 := A.cell
          have N := L.at (b := g2) (c := wcs n) (t := 25) (by simp)
          have n1 := N.cell
          go_wp2_with fail
          refine (P3.out _).mono ?_
          rintro e' w3 ⟨rfl, hw3⟩
          clear A N a1 n1
          replace L := ((L.call hw3).new (wcs q) 25).new (wcs r) 25
          rw [show (w3.alloc (.cells (wcs q) 25)).heap.size = w3.heap.size + 1 from by simp] at L
          clear hw3
          go_upto_region 15 with fail
          generalize hg : (w3.alloc (.cells #[.int .u64 (wd q 0), .int .u64 (wd q 1), .int .u64 (wd q 2), .int .u64 (wd q 3)] 25)).alloc (.cells #[.int .u64 (wd r 0), .int .u64 (wd r 1), .int .u64 (wd r 2), .int .u64 (wd r 3)] 25) = v3 at *
          generalize w3.heap.size = g3 at *
          clear hg
          have Q := L.at (b := g3) (c := wcs q) (t := 25) (by simp)
          have q1 := Q.cell
          have O := L.at (b := g + 1) (c := #[.int .u64 1, .int .u64 0, .int .u64 0, .int .u64 0]) (t := 25) (by simp)
          have o1 := O.cell
          go_wp2_with fail
          refine (P4.out _).mono ?_
          rintro e' w4 ⟨rfl, hw4⟩
          clear Q O q1 o1
          replace L := (L.call hw4).new (wcs (q + 1)) 25
          clear hw4
          go_upto_region 16 with fail
          generalize hg : w4.alloc (.cells #[.int .u64 (wd (q + 1) 0), .int .u64 (wd (q + 1) 1), .int .u64 (wd (q + 1) 2), .int .u64 (wd (q + 1) 3)] 25) = v4 at *
          generalize w4.heap.size = g4 at *
          clear hg
          have Q := L.at (b := g4) (c := wcs (q + 1)) (t := 25) (by simp)
          have q1 := Q.cell
          have T2 := L.at (b := w.heap.size) (c := #[.int .u64 0, .int .u64 0, .int .u64 0, .int .u64 0]) (t := 25) (by simp)
          have t3 := T2.cell
          have t4 := T2.free
          generalize q + 1 = y at *
          replace L := L.perm (l' := [(w.heap.size, #[.int .u64 0, .int .u64 0, .int .u64 0, .int .u64 0], 25)]) (by simp)
          go_wp2
          have L1 := L.put (m := 0) (n := y) (by omega) (by simp)
          have c4 := (L1.at (b := w.heap.size) (c := wcs y) (t := 25) (by simp)).cell
          exact bodyPost_ret (v := .tuple #[wv y, .int .i64 0]) (by simp [results, Try.results18, go_sem, c4]) rfl ⟨by rw [HW.out], L1.below⟩
end Go.Proofs.Ytacgcaebolmpfaa
