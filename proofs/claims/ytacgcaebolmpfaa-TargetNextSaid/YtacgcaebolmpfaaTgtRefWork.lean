/- The walk of layer 4's Work, the reference's; the law TargetTells. -/
import Derived.Test.YtacgcaebolmpfaaTgtWork
namespace Go.Proofs.Ytacgcaebolmpfaa
open Go.RowKit
set_option linter.unusedSimpArgs false

theorem neg_next {t : Nat} (h : t + 1 < W256) : (0 + W256 - (t + 1)) % W256 = W256 - 1 - t := by
  rw [Nat.mod_eq_of_lt (by omega)]; omega
set_option maxRecDepth 100000 in
set_option maxHeartbeats 1600000 in
theorem rwork (b : Nat) (w : World) (hb : b < 2 ^ 32) :
    Calls Try.prog 19 #[.int .u32 (b : Int)] w fun e w' => e = .returned (.tuple #[wv (wrk (tgt b)), .int .i64 (tErr (tgt b))]) ∧ Below w.heap.size w w' := by
  have p1 := fun w => rexpand b w hb
  have ht := tgt_lt b
  generalize tgt b = t at *
  have p2 := fun w => radd t 1 w ht one_W
  have L := (St.refl w).new #[.int .u64 0, .int .u64 0, .int .u64 0, .int .u64 0] 25
  by_cases hz : t = 0
  · subst hz
    rw [wv_zero, tErr_zero] at p1
    have P1 := Lib.hid p1
    clear p1 p2
    go_enter Try.func19, Try.ntmps19
    go_wp2_with fail
    refine (P1.out _).mono ?_
    rintro e' w1 ⟨rfl, hw1⟩
    replace L := (L.call hw1).new #[.int .u64 0, .int .u64 0, .int .u64 0, .int .u64 0] 25
    clear hw1
    go_upto_region 3 with fail
    generalize hg : w1.alloc (.cells #[.int .u64 0, .int .u64 0, .int .u64 0, .int .u64 0] 25) = v at *
    clear hg
    have T2 := L.at (b := w.heap.size) (c := #[.int .u64 0, .int .u64 0, .int .u64 0, .int .u64 0]) (t := 25) (by simp)
    have t3 := T2.cell
    have t4 := T2.free
    have L1 := L.below
    go_wp2
    have c4 := (Blk.set4 (y0 := .int .u64 0) (y1 := .int .u64 0) (y2 := .int .u64 0) (y3 := .int .u64 0) T2).cell
    exact bodyPost_ret (v := .tuple #[.agg #[.int .u64 0, .int .u64 0, .int .u64 0, .int .u64 0], .int .i64 40]) (by simp [results, Try.results19, go_sem, c4]) rfl
      ⟨by rw [show wrk 0 = 0 from rfl, wv_zero]; rfl, (((L1.setCell (by dsimp only; omega) _).setCell (by dsimp only; omega) _).setCell (by dsimp only; omega) _).setCell (by dsimp only; omega) _⟩
  · rw [tErr_pos hz] at p1 ⊢
    have P1 := Lib.hid p1
    rw [wv_one] at p2
    by_cases ho : W256 ≤ t + 1
    · have htt : t = W256 - 1 := by omega
      have HW := Lib.hid (show wrk t = 1 from by rw [htt]; exact wrk_max)
      rw [decide_eq_true ho] at p2
      generalize (t + 1) % W256 = n at *
      have P2 := Lib.hid p2
      clear p1 p2 htt ho hz
      go_enter Try.func19, Try.ntmps19
      go_wp2_with fail
      refine (P1.out _).mono ?_
      rintro e' w1 ⟨rfl, hw1⟩
      replace L := (L.call hw1).new (wcs t) 25
      clear hw1
      go_upto_region 4 with fail
      generalize hg : w1.alloc (.cells #[.int .u64 (wd t 0), .int .u64 (wd t 1), .int .u64 (wd t 2), .int .u64 (wd t 3)] 25) = v at *
      generalize w1.heap.size = g at *
      clear hg
      obtain ⟨c1, c0, l1, l0⟩ := L.c2
      go_wp2_with fail
      refine (P2.out _).mono ?_
      rintro e' w2 ⟨rfl, hw2⟩
      replace L := (L.call hw2).new (wcs n) 25
      clear hw2 c1 c0 l1 l0
      go_upto_region 6 with fail
      generalize hg : w2.alloc (.cells #[.int .u64 (wd n 0), .int .u64 (wd n 1), .int .u64 (wd n 2), .int .u64 (wd n 3)] 25) = v2 at *
      generalize w2.heap.size = g2 at *
      clear hg
      have T2 := L.at (b := w.heap.size) (c := #[.int .u64 0, .int .u64 0, .int .u64 0, .int .u64 0]) (t := 25) (by simp)
      have t3 := T2.cell
      have t4 := T2.free
      have L1 := L.below
      go_wp2
      have c4 := (Blk.set4 (y0 := .int .u64 1) (y1 := .int .u64 0) (y2 := .int .u64 0) (y3 := .int .u64 0) T2).cell
      exact bodyPost_ret (v := .tuple #[.agg #[.int .u64 1, .int .u64 0, .int .u64 0, .int .u64 0], .int .i64 0]) (by simp [results, Try.results19, go_sem, c4]) rfl
        ⟨by rw [HW.out, wv_one], (((L1.setCell (by dsimp only; omega) _).setCell (by dsimp only; omega) _).setCell (by dsimp only; omega) _).setCell (by dsimp only; omega) _⟩
    · have HW := Lib.hid (wrk_pos hz)
      have hq := wrk_q hz
      rw [decide_eq_false ho, Nat.mod_eq_of_lt (by omega)] at p2
      have hn : t + 1 < W256 := by omega
      have ps := fun w => rsub 0 (t + 1) w W_pos hn
      rw [neg_next hn, wv_zero] at ps
      generalize decide (0 < t + 1) = un at *
      have p3 := fun w => rdiv (W256 - 1 - t) (t + 1) w (not_lt_W t) hn (by omega)
      have p4 := fun w => radd ((W256 - 1 - t) / (t + 1)) 1 w (by omega) one_W
      rw [Nat.mod_eq_of_lt hq, wv_one] at p4
      generalize decide (W256 ≤ (W256 - 1 - t) / (t + 1) + 1) = ov at *
      generalize (W256 - 1 - t) / (t + 1) = q at *
      generalize (W256 - 1 - t) % (t + 1) = r at *
      generalize W256 - 1 - t = x at *
      generalize t + 1 = n at *
      have P2 := Lib.hid p2
      have PS := Lib.hid ps
      have P3 := Lib.hid p3
      have P4 := Lib.hid p4
      clear p1 p2 p3 p4 ps ho hz
      go_enter Try.func19, Try.ntmps19
      go_wp2_with fail
      refine (P1.out _).mono ?_
      rintro e' w1 ⟨rfl, hw1⟩
      have LH := Lib.hid ((L.call hw1).at (b := w.heap.size) (c := #[.int .u64 0, .int .u64 0, .int .u64 0, .int .u64 0]) (t := 25) (by simp)).lt
      replace L := (L.call hw1).new (wcs t) 25
      clear hw1
      go_upto_region 4 with fail
      have lh : w.heap.size < w1.heap.size := LH.out
      generalize hg : w1.alloc (.cells #[.int .u64 (wd t 0), .int .u64 (wd t 1), .int .u64 (wd t 2), .int .u64 (wd t 3)] 25) = v at *
      generalize w1.heap.size = g at *
      clear hg
      obtain ⟨c1, c0, l1, l0⟩ := L.c2
      go_wp2_with fail
      refine (P2.out _).mono ?_
      rintro e' w2 ⟨rfl, hw2⟩
      have LG := Lib.hid ((L.call hw2).at (b := g) (c := wcs t) (t := 25) (by simp)).lt
      replace L := (L.call hw2).new (wcs n) 25
      clear hw2 c1 c0 l1 l0
      go_upto_region 7 with fail
      have lg : g < w2.heap.size := LG.out
      generalize hg : w2.alloc (.cells #[.int .u64 (wd n 0), .int .u64 (wd n 1), .int .u64 (wd n 2), .int .u64 (wd n 3)] 25) = v2 at *
      generalize w2.heap.size = g2 at *
      clear hg
      obtain ⟨c1, c0, l1, l0⟩ := L.c2
      go_wp2_with fail
      refine (PS.out _).mono ?_
      rintro e' w3 ⟨rfl, hw3⟩
      have LG2 := Lib.hid ((L.call hw3).at (b := g2) (c := wcs n) (t := 25) (by simp)).lt
      replace L := (L.call hw3).new (wcs x) 25
      clear hw3 c1 c0 l1 l0
      go_upto_region 8 with fail
      have lg2 : g2 < w3.heap.size := LG2.out
      generalize hg : w3.alloc (.cells #[.int .u64 (wd x 0), .int .u64 (wd x 1), .int .u64 (wd x 2), .int .u64 (wd x 3)] 25) = v3 at *
      generalize w3.heap.size = g3 at *
      clear hg
      obtain ⟨c1, c0, l1, l0⟩ := L.c2
      go_wp2_with fail
      refine (P3.out _).mono ?_
      rintro e' w4 ⟨rfl, hw4⟩
      have LG3 := Lib.hid ((L.call hw4).at (b := g3) (c := wcs x) (t := 25) (by simp)).lt
      replace L := ((L.call hw4).new (wcs q) 25).new (wcs r) 25
      rw [show (w4.alloc (.cells (wcs q) 25)).heap.size = w4.heap.size + 1 from by simp] at L
      clear hw4 c1 c0 l1 l0
      go_upto_region 9 with fail
      have lg3 : g3 < w4.heap.size := LG3.out
      generalize hg : (w4.alloc (.cells #[.int .u64 (wd q 0), .int .u64 (wd q 1), .int .u64 (wd q 2), .int .u64 (wd q 3)] 25)).alloc (.cells #[.int .u64 (wd r 0), .int .u64 (wd r 1), .int .u64 (wd r 2), .int .u64 (wd r 3)] 25) = v4 at *
      generalize w4.heap.size = g4 at *
      clear hg
      have Q := L.at (b := g4) (c := wcs q) (t := 25) (by simp)
      have q1 := Q.cell
      go_wp2_with fail
      refine (P4.out _).mono ?_
      rintro e' w5 ⟨rfl, hw5⟩
      clear Q q1
      replace L := (L.call hw5).perm (l' := [(g4, wcs q, 25), (w.heap.size, #[.int .u64 0, .int .u64 0, .int .u64 0, .int .u64 0], 25)]) (by simp)
      clear hw5
      have Q := L.at (b := g4) (c := wcs q) (t := 25) (by simp)
      have q1 := Q.cell
      have q2 := Q.free
      generalize q + 1 = y at *
      go_upto_region 10 with fail
      replace L := L.put (n := y) (by omega) (by simp <;> omega)
      generalize (((w5.setCell ⟨g4, 0, none⟩ (.int .u64 (wd y 0))).setCell ⟨g4, 1, none⟩ (.int .u64 (wd y 1))).setCell ⟨g4, 2, none⟩ (.int .u64 (wd y 2))).setCell ⟨g4, 3, none⟩ (.int .u64 (wd y 3)) = w6 at *
      clear Q q1 q2
      have Q := L.at (b := g4) (c := wcs y) (t := 25) (by simp)
      have q1 := Q.cell
      have T2 := L.at (b := w.heap.size) (c := #[.int .u64 0, .int .u64 0, .int .u64 0, .int .u64 0]) (t := 25) (by simp)
      have t3 := T2.cell
      have t4 := T2.free
      replace L := L.perm (l' := [(w.heap.size, #[.int .u64 0, .int .u64 0, .int .u64 0, .int .u64 0], 25)]) (by simp)
      go_wp2
      have L1 := L.put (m := 0) (n := y) (by omega) (by simp)
      have c4 := (L1.at (b := w.heap.size) (c := wcs y) (t := 25) (by simp)).cell
      exact bodyPost_ret (v := .tuple #[wv y, .int .i64 0]) (by simp [results, Try.results19, go_sem, c4]) rfl ⟨by rw [HW.out], L1.below⟩
end Go.Proofs.Ytacgcaebolmpfaa
