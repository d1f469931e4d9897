/- The walks of layer 4's Next. -/
import Derived.Test.YtacgcaebolmpfaaTgtLawB
namespace Go.Proofs.Ytacgcaebolmpfaa
open Go.RowKit
set_option linter.unusedSimpArgs false

/-- the seconds within their bounds -/
def clampS (secs want : Int) : Int := max (want / 4) (min secs (4 * want))
/-- the target behind a span -/
def nxt (t l s n : Nat) : Nat :=
  let q := (if W256 ≤ t * s then W256 - 1 else t * s) / n
  if q = 0 then 1 else if l < q then l else q
theorem nxt_def (t l s n : Nat) : nxt t l s n = if (if W256 ≤ t * s then W256 - 1 else t * s) / n = 0 then 1 else if l < (if W256 ≤ t * s then W256 - 1 else t * s) / n then l else (if W256 ≤ t * s then W256 - 1 else t * s) / n := rfl
theorem wd1_0 : wd 1 0 = 1 := rfl
theorem wd1_1 : wd 1 1 = 0 := rfl
theorem wd1_2 : wd 1 2 = 0 := rfl
theorem wd1_3 : wd 1 3 = 0 := rfl
theorem max_W : W256 - 1 < W256 := by have := W_pos; omega
theorem wd_max (k : Nat) (h : k < 4) : wd (W256 - 1) k = 18446744073709551615 := by
  rw [W256_eq]
  rcases (by omega : k = 0 ∨ k = 1 ∨ k = 2 ∨ k = 3) with h | h | h | h <;> subst h <;> decide +kernel

set_option maxRecDepth 100000 in
set_option maxHeartbeats 3200000 in
theorem wnext_bad (a b : Nat) (secs want : Int) (w : World) (ha : a < 2 ^ 32) (hb : b < 2 ^ 32) (h : tgt a = 0 ∨ tgt b = 0) :
    Calls Try.prog 21 #[.int .u32 (a : Int), .int .u32 (b : Int), .int .i64 secs, .int .i64 want] w fun e w' => e = .returned (.tuple #[.int .u32 0, .int .i64 40]) ∧ Below w.heap.size w w' := by
  have p1 := fun w => wexpand a w ha
  have p2 := fun w => wexpand b w hb
  have L := St.refl w
  generalize tgt a = t at *
  generalize tgt b = u at *
  by_cases h0 : t = 0
  · rw [show tErr t = 40 from if_pos h0] at p1
    generalize tErr u = z at *
    have P1 := Lib.hid p1
    have P2 := Lib.hid p2
    clear p1 p2 h h0
    go_enter Try.func21, Try.ntmps21
    go_wp2_with fail
    refine (P1.out _).mono ?_
    rintro e' w1 ⟨rfl, hw1⟩
    replace L := (L.call hw1).new (wcs t) 25
    clear hw1
    go_wp2
    go_ret2
    exact ⟨rfl, L.below⟩
  · have h1 : u = 0 := by omega
    rw [show tErr t = 0 from if_neg h0] at p1
    rw [show tErr u = 40 from if_pos h1] at p2
    have P1 := Lib.hid p1
    have P2 := Lib.hid p2
    clear p1 p2 h h0 h1
    go_enter Try.func21, Try.ntmps21
    go_wp2_with fail
    refine (P1.out _).mono ?_
    rintro e' w1 ⟨rfl, hw1⟩
    replace L := (L.call hw1).new (wcs t) 25
    clear hw1
    go_wp2_with fail
    refine (P2.out _).mono ?_
    rintro e' w2 ⟨rfl, hw2⟩
    replace L := (L.call hw2).new (wcs u) 25
    clear hw2
    go_wp2
    go_ret2
    exact ⟨rfl, L.below⟩

set_option maxRecDepth 100000 in
set_option maxHeartbeats 3200000 in
theorem wnext_arg (a b : Nat) (secs want : Int) (w : World) (ha : a < 2 ^ 32) (hb : b < 2 ^ 32) (h0 : tgt a ≠ 0) (h1 : tgt b ≠ 0) (h : want < 4 ∨ 1073741824 < want) :
    Calls Try.prog 21 #[.int .u32 (a : Int), .int .u32 (b : Int), .int .i64 secs, .int .i64 want] w fun e w' => e = .returned (.tuple #[.int .u32 0, .int .i64 1]) ∧ Below w.heap.size w w' := by
  have p1 := fun w => wexpand a w ha
  have p2 := fun w => wexpand b w hb
  rw [tErr_pos h0] at p1
  rw [tErr_pos h1] at p2
  generalize tgt a = t at *
  generalize tgt b = u at *
  have L := St.refl w
  have P1 := Lib.hid p1
  have P2 := Lib.hid p2
  clear p1 p2 h0 h1
  by_cases h2 : want < 4
  · have d1 : decide (want < 4) = true := decide_eq_true h2
    clear h
    go_enter Try.func21, Try.ntmps21
    go_wp2_with fail
    refine (P1.out _).mono ?_
    rintro e' w1 ⟨rfl, hw1⟩
    replace L := (L.call hw1).new (wcs t) 25
    clear hw1
    go_wp2_with fail
    refine (P2.out _).mono ?_
    rintro e' w2 ⟨rfl, hw2⟩
    replace L := (L.call hw2).new (wcs u) 25
    clear hw2
    go_wp2
    go_ret2
    exact ⟨rfl, L.below⟩
  · have d1 : decide (want < 4) = false := decide_eq_false h2
    have h3 : 1073741824 < want := by omega
    have d2 : decide (1073741824 < want) = true := decide_eq_true h3
    clear h
    go_enter Try.func21, Try.ntmps21
    go_wp2_with fail
    refine (P1.out _).mono ?_
    rintro e' w1 ⟨rfl, hw1⟩
    replace L := (L.call hw1).new (wcs t) 25
    clear hw1
    go_wp2_with fail
    refine (P2.out _).mono ?_
    rintro e' w2 ⟨rfl, hw2⟩
    replace L := (L.call hw2).new (wcs u) 25
    clear hw2
    go_wp2
    go_ret2
    exact ⟨rfl, L.below⟩

set_option maxRecDepth 100000 in
set_option maxHeartbeats 3200000 in
theorem wnext_good (a b s n : Nat) (secs want : Int) (w : World) (ha : a < 2 ^ 32) (hb : b < 2 ^ 32) (h0 : tgt a ≠ 0) (h1 : tgt b ≠ 0) (h2 : 4 ≤ want) (h3 : want ≤ 1073741824) (hn : want = n) (hs : s < 2 ^ 33) (hc : clampS secs want = s) (hsec : -9223372036854775808 ≤ secs ∧ secs ≤ 9223372036854775807) :
    Calls Try.prog 21 #[.int .u32 (a : Int), .int .u32 (b : Int), .int .i64 secs, .int .i64 want] w fun e w' => e = .returned (.tuple #[.int .u32 (cpt (nxt (tgt a) (tgt b) s n) : Int), .int .i64 0]) ∧ Below w.heap.size w w' := by
  have p1 := fun w => wexpand a w ha
  have p2 := fun w => wexpand b w hb
  have ht := tgt_lt a
  have hl := tgt_lt b
  rw [tErr_pos h0] at p1
  rw [tErr_pos h1] at p2
  generalize tgt a = t at *
  generalize tgt b = l at *
  have d1 : decide (want < 4) = false := decide_eq_false (by omega)
  have d2 : decide (1073741824 < want) = false := decide_eq_false (by omega)
  have hsW : s < W256 := by rw [W256_eq]; omega
  have hnW : n < W256 := by rw [W256_eq]; omega
  have p3 := fun w => wmul t s w ht hsW
  rw [wv_small (m := s) (by omega)] at p3
  have hc2 : max (want / 4) (min secs (4 * want)) = (s : Int) := by rw [← hc]; unfold clampS; omega
  obtain ⟨k1, k2⟩ := hsec
  have hx := nxt_def t l s n
  have hN0 : n ≠ 0 := by omega
  subst hn
  generalize nxt t l s n = x at *
  have L := St.refl w
  have P1 := Lib.hid p1
  have P2 := Lib.hid p2
  clear p1 p2 h0 hc
  by_cases ho : W256 ≤ t * s
  · rw [decide_eq_true ho] at p3
    rw [if_pos ho] at hx
    generalize t * s % W256 = p at *
    have P3 := Lib.hid p3
    have hp := max_W
    have pd := fun w => wdiv (W256 - 1) n w hp hnW hN0
    rw [wv_small (m := n) (by omega)] at pd
    clear p3 ho
    generalize hmx : W256 - 1 = mx at *
    have HMX := Lib.hid hmx
    clear hmx
    have hqW : mx / n < W256 := Nat.lt_of_le_of_lt (Nat.div_le_self _ _) hp
    have q0 := weql (mx / n) 0 hqW W_pos
    rw [wv_zero] at q0
    generalize mx / n = q at *
    generalize mx % n = r at *
    have PD := Lib.hid pd
    clear pd
    by_cases hq0 : q = 0
    · rw [if_pos hq0] at hx
      rw [show (q == 0) = true from by simpa using hq0] at q0
      have pe := fun w => wcompact 1 w one_W
      rw [wv_one] at pe
      subst hx
      have PE := Lib.hid pe
      skip
      skip
      skip
      skip
      skip
      clear pe hq0 
      go_enter Try.func21, Try.ntmps21
      go_wp2_with fail
      refine (P1.out _).mono ?_
      rintro e' w1 ⟨rfl, hw1⟩
      replace L := (L.call hw1).new (wcs t) 25
      clear hw1
      go_wp2_with fail
      refine (P2.out _).mono ?_
      rintro e' w2 ⟨rfl, hw2⟩
      have LA := Lib.hid ((L.call hw2).at (b := w1.heap.size) (c := wcs t) (t := 25) (by simp)).lt
      replace L := (L.call hw2).new (wcs l) 25
      clear hw2
      go_upto_region 10 with fail
      try rw [hc2]
      have la : w1.heap.size < w2.heap.size := LA.out
      generalize hg : w2.alloc (.cells #[.int .u64 (wd l 0), .int .u64 (wd l 1), .int .u64 (wd l 2), .int .u64 (wd l 3)] 25) = v at *
      clear hg
      generalize w2.heap.size = g2 at *
      generalize w1.heap.size = g1 at *
      have B2x0 := L.at (b := g1) (c := wcs t) (t := 25) (by simp)
      have c2x0 := B2x0.cell
      have l2x0 := B2x0.lt
      go_wp2_with fail
      refine (P3.out _).mono ?_
      rintro e' w3 ⟨rfl, hw3⟩
      have LC := Lib.hid ((L.call hw3).at (b := g2) (c := wcs l) (t := 25) (by simp)).lt
      have LE3 := Lib.hid (L.call hw3).below.size
      clear B2x0 c2x0 l2x0
      replace L := (L.call hw3).new (wcs p) 25
      clear hw3
      go_upto_region 11 with fail
      have lc : g2 < w3.heap.size := LC.out
      have le3 : w.heap.size ≤ w3.heap.size := LE3.out
      generalize hg : w3.alloc (.cells #[.int .u64 (wd p 0), .int .u64 (wd p 1), .int .u64 (wd p 2), .int .u64 (wd p 3)] 25) = v3 at *
      clear hg
      generalize w3.heap.size = g3 at *
      have F := L.at (b := g3) (c := wcs p) (t := 25) (by simp)
      have f1 := F.cell
      have f2 := F.free
      go_upto_region 13 with fail
      replace L := St.put (n := mx) L le3 (by simp <;> omega)
      rw [show wd mx 0 = 18446744073709551615 from by rw [← HMX.out]; exact wd_max 0 (by decide), show wd mx 1 = 18446744073709551615 from by rw [← HMX.out]; exact wd_max 1 (by decide), show wd mx 2 = 18446744073709551615 from by rw [← HMX.out]; exact wd_max 2 (by decide), show wd mx 3 = 18446744073709551615 from by rw [← HMX.out]; exact wd_max 3 (by decide)] at L
      clear f1 f2 F
      generalize (((v3.setCell ⟨g3, 0, none⟩ (.int .u64 18446744073709551615)).setCell ⟨g3, 1, none⟩ (.int .u64 18446744073709551615)).setCell ⟨g3, 2, none⟩ (.int .u64 18446744073709551615)).setCell ⟨g3, 3, none⟩ (.int .u64 18446744073709551615) = v4 at *
      have M := L.at (b := g3) (c := wcs mx) (t := 25) (by simp)
      have m1 := M.cell
      go_wp2_with fail
      refine (PD.out _).mono ?_
      rintro e' w4 ⟨rfl, hw4⟩
      have LD := Lib.hid ((L.call hw4).at (b := g3) (c := wcs mx) (t := 25) (by simp)).lt
      have LE4 := Lib.hid (L.call hw4).below.size
      clear M m1
      replace L := ((L.call hw4).new (wcs q) 25).new (wcs r) 25
      rw [show (w4.alloc (.cells (wcs q) 25)).heap.size = w4.heap.size + 1 from by simp] at L
      clear hw4
      go_upto_region 14 with fail
      have ld : g3 < w4.heap.size := LD.out
      have le4 : w.heap.size ≤ w4.heap.size := LE4.out
      generalize hg : (w4.alloc (.cells #[.int .u64 (wd q 0), .int .u64 (wd q 1), .int .u64 (wd q 2), .int .u64 (wd q 3)] 25)).alloc (.cells #[.int .u64 (wd r 0), .int .u64 (wd r 1), .int .u64 (wd r 2), .int .u64 (wd r 3)] 25) = v5 at *
      clear hg
      generalize w4.heap.size = g4 at *
      replace L := L.perm (l' := [(g4, wcs q, 25), (g2, wcs l, 25)]) (by simp)
      have Q := L.at (b := g4) (c := wcs q) (t := 25) (by simp)
      have c1 := Q.cell
      have c2 := Q.free
      have Y := L.at (b := g2) (c := wcs l) (t := 25) (by simp)
      have c3 := Y.cell
      go_upto_region 20 with fail
      replace L := L.put (n := 1) le4 (by simp <;> omega)
      rw [wd1_0, wd1_1, wd1_2, wd1_3] at L
      generalize (((v5.setCell ⟨g4, 0, none⟩ (.int .u64 1)).setCell ⟨g4, 1, none⟩ (.int .u64 0)).setCell ⟨g4, 2, none⟩ (.int .u64 0)).setCell ⟨g4, 3, none⟩ (.int .u64 0) = v6 at *
      clear c1 c2 c3 Q Y
      have Q := L.at (b := g4) (c := wcs 1) (t := 25) (by simp)
      have c1 := Q.cell
      have Y := L.at (b := g2) (c := wcs l) (t := 25) (by simp)
      have c3 := Y.cell
      rw [show wcs 1 = #[.int .u64 1, .int .u64 0, .int .u64 0, .int .u64 0] from rfl] at c1
      go_wp2_with fail
      refine (PE.out _).mono ?_
      rintro e' w8 ⟨rfl, hw8⟩
      replace L := L.call hw8
      go_wp2
      go_ret2
      exact ⟨rfl, L.below⟩
    · rw [if_neg hq0] at hx
      rw [show (q == 0) = false from by simpa using hq0] at q0
      have pc := fun w => wcmp q l w hqW hl
      clear hq0
      by_cases hlq : l < q
      · rw [if_pos hlq] at hx
        obtain rfl : l = x := hx.symm
        have pe := fun w => wcompact l w hl
        have PE := Lib.hid pe
        have hcm : (0 : Int) < cmpN q l := by unfold cmpN; rw [if_neg (by omega), if_pos hlq]; decide
        generalize cmpN q l = z at *
        have PC := Lib.hid pc
        clear pe pc hlq
        go_enter Try.func21, Try.ntmps21
        go_wp2_with fail
        refine (P1.out _).mono ?_
        rintro e' w1 ⟨rfl, hw1⟩
        replace L := (L.call hw1).new (wcs t) 25
        clear hw1
        go_wp2_with fail
        refine (P2.out _).mono ?_
        rintro e' w2 ⟨rfl, hw2⟩
        have LA := Lib.hid ((L.call hw2).at (b := w1.heap.size) (c := wcs t) (t := 25) (by simp)).lt
        replace L := (L.call hw2).new (wcs l) 25
        clear hw2
        go_upto_region 10 with fail
        try rw [hc2]
        have la : w1.heap.size < w2.heap.size := LA.out
        generalize hg : w2.alloc (.cells #[.int .u64 (wd l 0), .int .u64 (wd l 1), .int .u64 (wd l 2), .int .u64 (wd l 3)] 25) = v at *
        clear hg
        generalize w2.heap.size = g2 at *
        generalize w1.heap.size = g1 at *
        have B2x0 := L.at (b := g1) (c := wcs t) (t := 25) (by simp)
        have c2x0 := B2x0.cell
        have l2x0 := B2x0.lt
        go_wp2_with fail
        refine (P3.out _).mono ?_
        rintro e' w3 ⟨rfl, hw3⟩
        have LC := Lib.hid ((L.call hw3).at (b := g2) (c := wcs l) (t := 25) (by simp)).lt
        have LE3 := Lib.hid (L.call hw3).below.size
        clear B2x0 c2x0 l2x0
        replace L := (L.call hw3).new (wcs p) 25
        clear hw3
        go_upto_region 11 with fail
        have lc : g2 < w3.heap.size := LC.out
        have le3 : w.heap.size ≤ w3.heap.size := LE3.out
        generalize hg : w3.alloc (.cells #[.int .u64 (wd p 0), .int .u64 (wd p 1), .int .u64 (wd p 2), .int .u64 (wd p 3)] 25) = v3 at *
        clear hg
        generalize w3.heap.size = g3 at *
        have F := L.at (b := g3) (c := wcs p) (t := 25) (by simp)
        have f1 := F.cell
        have f2 := F.free
        go_upto_region 13 with fail
        replace L := St.put (n := mx) L le3 (by simp <;> omega)
        rw [show wd mx 0 = 18446744073709551615 from by rw [← HMX.out]; exact wd_max 0 (by decide), show wd mx 1 = 18446744073709551615 from by rw [← HMX.out]; exact wd_max 1 (by decide), show wd mx 2 = 18446744073709551615 from by rw [← HMX.out]; exact wd_max 2 (by decide), show wd mx 3 = 18446744073709551615 from by rw [← HMX.out]; exact wd_max 3 (by decide)] at L
        clear f1 f2 F
        generalize (((v3.setCell ⟨g3, 0, none⟩ (.int .u64 18446744073709551615)).setCell ⟨g3, 1, none⟩ (.int .u64 18446744073709551615)).setCell ⟨g3, 2, none⟩ (.int .u64 18446744073709551615)).setCell ⟨g3, 3, none⟩ (.int .u64 18446744073709551615) = v4 at *
        have M := L.at (b := g3) (c := wcs mx) (t := 25) (by simp)
        have m1 := M.cell
        go_wp2_with fail
        refine (PD.out _).mono ?_
        rintro e' w4 ⟨rfl, hw4⟩
        have LD := Lib.hid ((L.call hw4).at (b := g3) (c := wcs mx) (t := 25) (by simp)).lt
        have LE4 := Lib.hid (L.call hw4).below.size
        clear M m1
        replace L := ((L.call hw4).new (wcs q) 25).new (wcs r) 25
        rw [show (w4.alloc (.cells (wcs q) 25)).heap.size = w4.heap.size + 1 from by simp] at L
        clear hw4
        go_upto_region 14 with fail
        have ld : g3 < w4.heap.size := LD.out
        have le4 : w.heap.size ≤ w4.heap.size := LE4.out
        generalize hg : (w4.alloc (.cells #[.int .u64 (wd q 0), .int .u64 (wd q 1), .int .u64 (wd q 2), .int .u64 (wd q 3)] 25)).alloc (.cells #[.int .u64 (wd r 0), .int .u64 (wd r 1), .int .u64 (wd r 2), .int .u64 (wd r 3)] 25) = v5 at *
        clear hg
        generalize w4.heap.size = g4 at *
        replace L := L.perm (l' := [(g4, wcs q, 25), (g2, wcs l, 25)]) (by simp)
        have Q := L.at (b := g4) (c := wcs q) (t := 25) (by simp)
        have c1 := Q.cell
        have c2 := Q.free
        have Y := L.at (b := g2) (c := wcs l) (t := 25) (by simp)
        have c3 := Y.cell
        go_wp2_with fail
        refine (PC.out _).mono ?_
        rintro e' w6 ⟨rfl, hw6⟩
        replace L := L.call hw6
        clear hw6 c1 c2 c3 Q Y
        have Q := L.at (b := g4) (c := wcs q) (t := 25) (by simp)
        have c1 := Q.cell
        have c2 := Q.free
        have Y := L.at (b := g2) (c := wcs l) (t := 25) (by simp)
        have c3 := Y.cell
        generalize w6 = v5 at *
        go_upto_region 20 with fail
        replace L := L.put (n := l) le4 (by simp <;> omega)
        generalize (((v5.setCell ⟨g4, 0, none⟩ (.int .u64 (wd l 0))).setCell ⟨g4, 1, none⟩ (.int .u64 (wd l 1))).setCell ⟨g4, 2, none⟩ (.int .u64 (wd l 2))).setCell ⟨g4, 3, none⟩ (.int .u64 (wd l 3)) = v6 at *
        clear c1 c2 c3 Q Y
        have Q := L.at (b := g4) (c := wcs l) (t := 25) (by simp)
        have c1 := Q.cell
        have Y := L.at (b := g2) (c := wcs l) (t := 25) (by simp)
        have c3 := Y.cell
        go_wp2_with fail
        refine (PE.out _).mono ?_
        rintro e' w8 ⟨rfl, hw8⟩
        replace L := L.call hw8
        go_wp2
        go_ret2
        exact ⟨rfl, L.below⟩
      · rw [if_neg hlq] at hx
        obtain rfl : q = x := hx.symm
        have pe := fun w => wcompact q w hqW
        have PE := Lib.hid pe
        have hcm : ¬ (0 : Int) < cmpN q l := by unfold cmpN; split <;> first | decide | (rw [if_neg hlq]; decide)
        generalize cmpN q l = z at *
        have PC := Lib.hid pc
        clear pe pc hlq
        go_enter Try.func21, Try.ntmps21
        go_wp2_with fail
        refine (P1.out _).mono ?_
        rintro e' w1 ⟨rfl, hw1⟩
        replace L := (L.call hw1).new (wcs t) 25
        clear hw1
        go_wp2_with fail
        refine (P2.out _).mono ?_
        rintro e' w2 ⟨rfl, hw2⟩
        have LA := Lib.hid ((L.call hw2).at (b := w1.heap.size) (c := wcs t) (t := 25) (by simp)).lt
        replace L := (L.call hw2).new (wcs l) 25
        clear hw2
        go_upto_region 10 with fail
        try rw [hc2]
        have la : w1.heap.size < w2.heap.size := LA.out
        generalize hg : w2.alloc (.cells #[.int .u64 (wd l 0), .int .u64 (wd l 1), .int .u64 (wd l 2), .int .u64 (wd l 3)] 25) = v at *
        clear hg
        generalize w2.heap.size = g2 at *
        generalize w1.heap.size = g1 at *
        have B2x0 := L.at (b := g1) (c := wcs t) (t := 25) (by simp)
        have c2x0 := B2x0.cell
        have l2x0 := B2x0.lt
        go_wp2_with fail
        refine (P3.out _).mono ?_
        rintro e' w3 ⟨rfl, hw3⟩
        have LC := Lib.hid ((L.call hw3).at (b := g2) (c := wcs l) (t := 25) (by simp)).lt
        have LE3 := Lib.hid (L.call hw3).below.size
        clear B2x0 c2x0 l2x0
        replace L := (L.call hw3).new (wcs p) 25
        clear hw3
        go_upto_region 11 with fail
        have lc : g2 < w3.heap.size := LC.out
        have le3 : w.heap.size ≤ w3.heap.size := LE3.out
        generalize hg : w3.alloc (.cells #[.int .u64 (wd p 0), .int .u64 (wd p 1), .int .u64 (wd p 2), .int .u64 (wd p 3)] 25) = v3 at *
        clear hg
        generalize w3.heap.size = g3 at *
        have F := L.at (b := g3) (c := wcs p) (t := 25) (by simp)
        have f1 := F.cell
        have f2 := F.free
        go_upto_region 13 with fail
        replace L := St.put (n := mx) L le3 (by simp <;> omega)
        rw [show wd mx 0 = 18446744073709551615 from by rw [← HMX.out]; exact wd_max 0 (by decide), show wd mx 1 = 18446744073709551615 from by rw [← HMX.out]; exact wd_max 1 (by decide), show wd mx 2 = 18446744073709551615 from by rw [← HMX.out]; exact wd_max 2 (by decide), show wd mx 3 = 18446744073709551615 from by rw [← HMX.out]; exact wd_max 3 (by decide)] at L
        clear f1 f2 F
        generalize (((v3.setCell ⟨g3, 0, none⟩ (.int .u64 18446744073709551615)).setCell ⟨g3, 1, none⟩ (.int .u64 18446744073709551615)).setCell ⟨g3, 2, none⟩ (.int .u64 18446744073709551615)).setCell ⟨g3, 3, none⟩ (.int .u64 18446744073709551615) = v4 at *
        have M := L.at (b := g3) (c := wcs mx) (t := 25) (by simp)
        have m1 := M.cell
        go_wp2_with fail
        refine (PD.out _).mono ?_
        rintro e' w4 ⟨rfl, hw4⟩
        have LD := Lib.hid ((L.call hw4).at (b := g3) (c := wcs mx) (t := 25) (by simp)).lt
        have LE4 := Lib.hid (L.call hw4).below.size
        clear M m1
        replace L := ((L.call hw4).new (wcs q) 25).new (wcs r) 25
        rw [show (w4.alloc (.cells (wcs q) 25)).heap.size = w4.heap.size + 1 from by simp] at L
        clear hw4
        go_upto_region 14 with fail
        have ld : g3 < w4.heap.size := LD.out
        have le4 : w.heap.size ≤ w4.heap.size := LE4.out
        generalize hg : (w4.alloc (.cells #[.int .u64 (wd q 0), .int .u64 (wd q 1), .int .u64 (wd q 2), .int .u64 (wd q 3)] 25)).alloc (.cells #[.int .u64 (wd r 0), .int .u64 (wd r 1), .int .u64 (wd r 2), .int .u64 (wd r 3)] 25) = v5 at *
        clear hg
        generalize w4.heap.size = g4 at *
        replace L := L.perm (l' := [(g4, wcs q, 25), (g2, wcs l, 25)]) (by simp)
        have Q := L.at (b := g4) (c := wcs q) (t := 25) (by simp)
        have c1 := Q.cell
        have c2 := Q.free
        have Y := L.at (b := g2) (c := wcs l) (t := 25) (by simp)
        have c3 := Y.cell
        go_wp2_with fail
        refine (PC.out _).mono ?_
        rintro e' w6 ⟨rfl, hw6⟩
        replace L := L.call hw6
        clear hw6 c1 c2 c3 Q Y
        have Q := L.at (b := g4) (c := wcs q) (t := 25) (by simp)
        have c1 := Q.cell
        have c2 := Q.free
        have Y := L.at (b := g2) (c := wcs l) (t := 25) (by simp)
        have c3 := Y.cell
        generalize w6 = v5 at *
        go_wp2_with fail
        refine (PE.out _).mono ?_
        rintro e' w8 ⟨rfl, hw8⟩
        replace L := L.call hw8
        go_wp2
        go_ret2
        exact ⟨rfl, L.below⟩
  · rw [decide_eq_false ho, Nat.mod_eq_of_lt (by omega)] at p3
    rw [if_neg ho] at hx
    have P3 := Lib.hid p3
    have hp : t * s < W256 := by omega
    have pd := fun w => wdiv (t * s) n w hp hnW hN0
    rw [wv_small (m := n) (by omega)] at pd
    clear p3 ho
    generalize hmx : t * s = mx at *
    clear hmx
    have hqW : mx / n < W256 := Nat.lt_of_le_of_lt (Nat.div_le_self _ _) hp
    have q0 := weql (mx / n) 0 hqW W_pos
    rw [wv_zero] at q0
    generalize mx / n = q at *
    generalize mx % n = r at *
    have PD := Lib.hid pd
    clear pd
    by_cases hq0 : q = 0
    · rw [if_pos hq0] at hx
      rw [show (q == 0) = true from by simpa using hq0] at q0
      have pe := fun w => wcompact 1 w one_W
      rw [wv_one] at pe
      subst hx
      have PE := Lib.hid pe
      skip
      skip
      skip
      skip
      skip
      clear pe hq0 
      go_enter Try.func21, Try.ntmps21
      go_wp2_with fail
      refine (P1.out _).mono ?_
      rintro e' w1 ⟨rfl, hw1⟩
      replace L := (L.call hw1).new (wcs t) 25
      clear hw1
      go_wp2_with fail
      refine (P2.out _).mono ?_
      rintro e' w2 ⟨rfl, hw2⟩
      have LA := Lib.hid ((L.call hw2).at (b := w1.heap.size) (c := wcs t) (t := 25) (by simp)).lt
      replace L := (L.call hw2).new (wcs l) 25
      clear hw2
      go_upto_region 10 with fail
      try rw [hc2]
      have la : w1.heap.size < w2.heap.size := LA.out
      generalize hg : w2.alloc (.cells #[.int .u64 (wd l 0), .int .u64 (wd l 1), .int .u64 (wd l 2), .int .u64 (wd l 3)] 25) = v at *
      clear hg
      generalize w2.heap.size = g2 at *
      generalize w1.heap.size = g1 at *
      have B2x0 := L.at (b := g1) (c := wcs t) (t := 25) (by simp)
      have c2x0 := B2x0.cell
      have l2x0 := B2x0.lt
      go_wp2_with fail
      refine (P3.out _).mono ?_
      rintro e' w3 ⟨rfl, hw3⟩
      have LC := Lib.hid ((L.call hw3).at (b := g2) (c := wcs l) (t := 25) (by simp)).lt
      have LE3 := Lib.hid (L.call hw3).below.size
      clear B2x0 c2x0 l2x0
      replace L := (L.call hw3).new (wcs mx) 25
      clear hw3
      go_upto_region 11 with fail
      have lc : g2 < w3.heap.size := LC.out
      have le3 : w.heap.size ≤ w3.heap.size := LE3.out
      generalize hg : w3.alloc (.cells #[.int .u64 (wd mx 0), .int .u64 (wd mx 1), .int .u64 (wd mx 2), .int .u64 (wd mx 3)] 25) = v3 at *
      clear hg
      generalize w3.heap.size = g3 at *
      go_upto_region 13 with fail
      generalize v3 = v4 at *
      have M := L.at (b := g3) (c := wcs mx) (t := 25) (by simp)
      have m1 := M.cell
      go_wp2_with fail
      refine (PD.out _).mono ?_
      rintro e' w4 ⟨rfl, hw4⟩
      have LD := Lib.hid ((L.call hw4).at (b := g3) (c := wcs mx) (t := 25) (by simp)).lt
      have LE4 := Lib.hid (L.call hw4).below.size
      clear M m1
      replace L := ((L.call hw4).new (wcs q) 25).new (wcs r) 25
      rw [show (w4.alloc (.cells (wcs q) 25)).heap.size = w4.heap.size + 1 from by simp] at L
      clear hw4
      go_upto_region 14 with fail
      have ld : g3 < w4.heap.size := LD.out
      have le4 : w.heap.size ≤ w4.heap.size := LE4.out
      generalize hg : (w4.alloc (.cells #[.int .u64 (wd q 0), .int .u64 (wd q 1), .int .u64 (wd q 2), .int .u64 (wd q 3)] 25)).alloc (.cells #[.int .u64 (wd r 0), .int .u64 (wd r 1), .int .u64 (wd r 2), .int .u64 (wd r 3)] 25) = v5 at *
      clear hg
      generalize w4.heap.size = g4 at *
      replace L := L.perm (l' := [(g4, wcs q, 25), (g2, wcs l, 25)]) (by simp)
      have Q := L.at (b := g4) (c := wcs q) (t := 25) (by simp)
      have c1 := Q.cell
      have c2 := Q.free
      have Y := L.at (b := g2) (c := wcs l) (t := 25) (by simp)
      have c3 := Y.cell
      go_upto_region 20 with fail
      replace L := L.put (n := 1) le4 (by simp <;> omega)
      rw [wd1_0, wd1_1, wd1_2, wd1_3] at L
      generalize (((v5.setCell ⟨g4, 0, none⟩ (.int .u64 1)).setCell ⟨g4, 1, none⟩ (.int .u64 0)).setCell ⟨g4, 2, none⟩ (.int .u64 0)).setCell ⟨g4, 3, none⟩ (.int .u64 0) = v6 at *
      clear c1 c2 c3 Q Y
      have Q := L.at (b := g4) (c := wcs 1) (t := 25) (by simp)
      have c1 := Q.cell
      have Y := L.at (b := g2) (c := wcs l) (t := 25) (by simp)
      have c3 := Y.cell
      rw [show wcs 1 = #[.int .u64 1, .int .u64 0, .int .u64 0, .int .u64 0] from rfl] at c1
      go_wp2_with fail
      refine (PE.out _).mono ?_
      rintro e' w8 ⟨rfl, hw8⟩
      replace L := L.call hw8
      go_wp2
      go_ret2
      exact ⟨rfl, L.below⟩
    · rw [if_neg hq0] at hx
      rw [show (q == 0) = false from by simpa using hq0] at q0
      have pc := fun w => wcmp q l w hqW hl
      clear hq0
      by_cases hlq : l < q
      · rw [if_pos hlq] at hx
        obtain rfl : l = x := hx.symm
        have pe := fun w => wcompact l w hl
        have PE := Lib.hid pe
        have hcm : (0 : Int) < cmpN q l := by unfold cmpN; rw [if_neg (by omega), if_pos hlq]; decide
        generalize cmpN q l = z at *
        have PC := Lib.hid pc
        clear pe pc hlq
        go_enter Try.func21, Try.ntmps21
        go_wp2_with fail
        refine (P1.out _).mono ?_
        rintro e' w1 ⟨rfl, hw1⟩
        replace L := (L.call hw1).new (wcs t) 25
        clear hw1
        go_wp2_with fail
        refine (P2.out _).mono ?_
        rintro e' w2 ⟨rfl, hw2⟩
        have LA := Lib.hid ((L.call hw2).at (b := w1.heap.size) (c := wcs t) (t := 25) (by simp)).lt
        replace L := (L.call hw2).new (wcs l) 25
        clear hw2
        go_upto_region 10 with fail
        try rw [hc2]
        have la : w1.heap.size < w2.heap.size := LA.out
        generalize hg : w2.alloc (.cells #[.int .u64 (wd l 0), .int .u64 (wd l 1), .int .u64 (wd l 2), .int .u64 (wd l 3)] 25) = v at *
        clear hg
        generalize w2.heap.size = g2 at *
        generalize w1.heap.size = g1 at *
        have B2x0 := L.at (b := g1) (c := wcs t) (t := 25) (by simp)
        have c2x0 := B2x0.cell
        have l2x0 := B2x0.lt
        go_wp2_with fail
        refine (P3.out _).mono ?_
        rintro e' w3 ⟨rfl, hw3⟩
        have LC := Lib.hid ((L.call hw3).at (b := g2) (c := wcs l) (t := 25) (by simp)).lt
        have LE3 := Lib.hid (L.call hw3).below.size
        clear B2x0 c2x0 l2x0
        replace L := (L.call hw3).new (wcs mx) 25
        clear hw3
        go_upto_region 11 with fail
        have lc : g2 < w3.heap.size := LC.out
        have le3 : w.heap.size ≤ w3.heap.size := LE3.out
        generalize hg : w3.alloc (.cells #[.int .u64 (wd mx 0), .int .u64 (wd mx 1), .int .u64 (wd mx 2), .int .u64 (wd mx 3)] 25) = v3 at *
        clear hg
        generalize w3.heap.size = g3 at *
        go_upto_region 13 with fail
        generalize v3 = v4 at *
        have M := L.at (b := g3) (c := wcs mx) (t := 25) (by simp)
        have m1 := M.cell
        go_wp2_with fail
        refine (PD.out _).mono ?_
        rintro e' w4 ⟨rfl, hw4⟩
        have LD := Lib.hid ((L.call hw4).at (b := g3) (c := wcs mx) (t := 25) (by simp)).lt
        have LE4 := Lib.hid (L.call hw4).below.size
        clear M m1
        replace L := ((L.call hw4).new (wcs q) 25).new (wcs r) 25
        rw [show (w4.alloc (.cells (wcs q) 25)).heap.size = w4.heap.size + 1 from by simp] at L
        clear hw4
        go_upto_region 14 with fail
        have ld : g3 < w4.heap.size := LD.out
        have le4 : w.heap.size ≤ w4.heap.size := LE4.out
        generalize hg : (w4.alloc (.cells #[.int .u64 (wd q 0), .int .u64 (wd q 1), .int .u64 (wd q 2), .int .u64 (wd q 3)] 25)).alloc (.cells #[.int .u64 (wd r 0), .int .u64 (wd r 1), .int .u64 (wd r 2), .int .u64 (wd r 3)] 25) = v5 at *
        clear hg
        generalize w4.heap.size = g4 at *
        replace L := L.perm (l' := [(g4, wcs q, 25), (g2, wcs l, 25)]) (by simp)
        have Q := L.at (b := g4) (c := wcs q) (t := 25) (by simp)
        have c1 := Q.cell
        have c2 := Q.free
        have Y := L.at (b := g2) (c := wcs l) (t := 25) (by simp)
        have c3 := Y.cell
        go_wp2_with fail
        refine (PC.out _).mono ?_
        rintro e' w6 ⟨rfl, hw6⟩
        replace L := L.call hw6
        clear hw6 c1 c2 c3 Q Y
        have Q := L.at (b := g4) (c := wcs q) (t := 25) (by simp)
        have c1 := Q.cell
        have c2 := Q.free
        have Y := L.at (b := g2) (c := wcs l) (t := 25) (by simp)
        have c3 := Y.cell
        generalize w6 = v5 at *
        go_upto_region 20 with fail
        replace L := L.put (n := l) le4 (by simp <;> omega)
        generalize (((v5.setCell ⟨g4, 0, none⟩ (.int .u64 (wd l 0))).setCell ⟨g4, 1, none⟩ (.int .u64 (wd l 1))).setCell ⟨g4, 2, none⟩ (.int .u64 (wd l 2))).setCell ⟨g4, 3, none⟩ (.int .u64 (wd l 3)) = v6 at *
        clear c1 c2 c3 Q Y
        have Q := L.at (b := g4) (c := wcs l) (t := 25) (by simp)
        have c1 := Q.cell
        have Y := L.at (b := g2) (c := wcs l) (t := 25) (by simp)
        have c3 := Y.cell
        go_wp2_with fail
        refine (PE.out _).mono ?_
        rintro e' w8 ⟨rfl, hw8⟩
        replace L := L.call hw8
        go_wp2
        go_ret2
        exact ⟨rfl, L.below⟩
      · rw [if_neg hlq] at hx
        obtain rfl : q = x := hx.symm
        have pe := fun w => wcompact q w hqW
        have PE := Lib.hid pe
        have hcm : ¬ (0 : Int) < cmpN q l := by unfold cmpN; split <;> first | decide | (rw [if_neg hlq]; decide)
        generalize cmpN q l = z at *
        have PC := Lib.hid pc
        clear pe pc hlq
        go_enter Try.func21, Try.ntmps21
        go_wp2_with fail
        refine (P1.out _).mono ?_
        rintro e' w1 ⟨rfl, hw1⟩
        replace L := (L.call hw1).new (wcs t) 25
        clear hw1
        go_wp2_with fail
        refine (P2.out _).mono ?_
        rintro e' w2 ⟨rfl, hw2⟩
        have LA := Lib.hid ((L.call hw2).at (b := w1.heap.size) (c := wcs t) (t := 25) (by simp)).lt
        replace L := (L.call hw2).new (wcs l) 25
        clear hw2
        go_upto_region 10 with fail
        try rw [hc2]
        have la : w1.heap.size < w2.heap.size := LA.out
        generalize hg : w2.alloc (.cells #[.int .u64 (wd l 0), .int .u64 (wd l 1), .int .u64 (wd l 2), .int .u64 (wd l 3)] 25) = v at *
        clear hg
        generalize w2.heap.size = g2 at *
        generalize w1.heap.size = g1 at *
        have B2x0 := L.at (b := g1) (c := wcs t) (t := 25) (by simp)
        have c2x0 := B2x0.cell
        have l2x0 := B2x0.lt
        go_wp2_with fail
        refine (P3.out _).mono ?_
        rintro e' w3 ⟨rfl, hw3⟩
        have LC := Lib.hid ((L.call hw3).at (b := g2) (c := wcs l) (t := 25) (by simp)).lt
        have LE3 := Lib.hid (L.call hw3).below.size
        clear B2x0 c2x0 l2x0
        replace L := (L.call hw3).new (wcs mx) 25
        clear hw3
        go_upto_region 11 with fail
        have lc : g2 < w3.heap.size := LC.out
        have le3 : w.heap.size ≤ w3.heap.size := LE3.out
        generalize hg : w3.alloc (.cells #[.int .u64 (wd mx 0), .int .u64 (wd mx 1), .int .u64 (wd mx 2), .int .u64 (wd mx 3)] 25) = v3 at *
        clear hg
        generalize w3.heap.size = g3 at *
        go_upto_region 13 with fail
        generalize v3 = v4 at *
        have M := L.at (b := g3) (c := wcs mx) (t := 25) (by simp)
        have m1 := M.cell
        go_wp2_with fail
        refine (PD.out _).mono ?_
        rintro e' w4 ⟨rfl, hw4⟩
        have LD := Lib.hid ((L.call hw4).at (b := g3) (c := wcs mx) (t := 25) (by simp)).lt
        have LE4 := Lib.hid (L.call hw4).below.size
        clear M m1
        replace L := ((L.call hw4).new (wcs q) 25).new (wcs r) 25
        rw [show (w4.alloc (.cells (wcs q) 25)).heap.size = w4.heap.size + 1 from by simp] at L
        clear hw4
        go_upto_region 14 with fail
        have ld : g3 < w4.heap.size := LD.out
        have le4 : w.heap.size ≤ w4.heap.size := LE4.out
        generalize hg : (w4.alloc (.cells #[.int .u64 (wd q 0), .int .u64 (wd q 1), .int .u64 (wd q 2), .int .u64 (wd q 3)] 25)).alloc (.cells #[.int .u64 (wd r 0), .int .u64 (wd r 1), .int .u64 (wd r 2), .int .u64 (wd r 3)] 25) = v5 at *
        clear hg
        generalize w4.heap.size = g4 at *
        replace L := L.perm (l' := [(g4, wcs q, 25), (g2, wcs l, 25)]) (by simp)
        have Q := L.at (b := g4) (c := wcs q) (t := 25) (by simp)
        have c1 := Q.cell
        have c2 := Q.free
        have Y := L.at (b := g2) (c := wcs l) (t := 25) (by simp)
        have c3 := Y.cell
        go_wp2_with fail
        refine (PC.out _).mono ?_
        rintro e' w6 ⟨rfl, hw6⟩
        replace L := L.call hw6
        clear hw6 c1 c2 c3 Q Y
        have Q := L.at (b := g4) (c := wcs q) (t := 25) (by simp)
        have c1 := Q.cell
        have c2 := Q.free
        have Y := L.at (b := g2) (c := wcs l) (t := 25) (by simp)
        have c3 := Y.cell
        generalize w6 = v5 at *
        go_wp2_with fail
        refine (PE.out _).mono ?_
        rintro e' w8 ⟨rfl, hw8⟩
        replace L := L.call hw8
        go_wp2
        go_ret2
        exact ⟨rfl, L.below⟩
end Go.Proofs.Ytacgcaebolmpfaa
