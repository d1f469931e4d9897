/- The laws' own walks: TargetNext, TargetBounds. -/
import Derived.Test.YtacgcaebolmpfaaTgtRefNext
namespace Go.Proofs.Ytacgcaebolmpfaa
open Go.RowKit
set_option linter.unusedSimpArgs false

def nextC (a b : Nat) (secs want : Int) : Nat := if tgt a = 0 ∨ tgt b = 0 then 0 else if want < 4 ∨ 1073741824 < want then 0 else cpt (nxt (tgt a) (tgt b) (clampS secs want).toNat want.toNat)
def nextE (a b : Nat) (want : Int) : Int := if tgt a = 0 ∨ tgt b = 0 then 40 else if want < 4 ∨ 1073741824 < want then 1 else 0
theorem wnext_any (a b : Nat) (secs want : Int) (w : World) (ha : a < 2 ^ 32) (hb : b < 2 ^ 32) (hsec : -9223372036854775808 ≤ secs ∧ secs ≤ 9223372036854775807) :
    Calls Try.prog 21 #[.int .u32 (a : Int), .int .u32 (b : Int), .int .i64 secs, .int .i64 want] w fun e w' => e = .returned (.tuple #[.int .u32 (nextC a b secs want : Int), .int .i64 (nextE a b want)]) ∧ Below w.heap.size w w' := by
  unfold nextC nextE
  by_cases h : tgt a = 0 ∨ tgt b = 0
  · rw [if_pos h, if_pos h]; exact wnext_bad a b secs want w ha hb h
  · have h0 : tgt a ≠ 0 := fun e => h (.inl e)
    have h1 : tgt b ≠ 0 := fun e => h (.inr e)
    rw [if_neg h, if_neg h]
    by_cases h2 : want < 4 ∨ 1073741824 < want
    · rw [if_pos h2, if_pos h2]; exact wnext_arg a b secs want w ha hb h0 h1 h2
    · rw [if_neg h2, if_neg h2]
      have hc : 0 ≤ clampS secs want ∧ clampS secs want < 2 ^ 33 := by unfold clampS; omega
      exact wnext_good a b (clampS secs want).toNat want.toNat secs want w ha hb h0 h1 (by omega) (by omega) (by omega) (by omega) (by omega) hsec
theorem rnext_any (a b : Nat) (secs want : Int) (w : World) (ha : a < 2 ^ 32) (hb : b < 2 ^ 32) (hsec : -9223372036854775808 ≤ secs ∧ secs ≤ 9223372036854775807) :
    Calls Try.prog 22 #[.int .u32 (a : Int), .int .u32 (b : Int), .int .i64 secs, .int .i64 want] w fun e w' => e = .returned (.tuple #[.int .u32 (nextC a b secs want : Int), .int .i64 (nextE a b want)]) ∧ Below w.heap.size w w' := by
  unfold nextC nextE
  by_cases h : tgt a = 0 ∨ tgt b = 0
  · rw [if_pos h, if_pos h]; exact rnext_bad a b secs want w ha hb h
  · have h0 : tgt a ≠ 0 := fun e => h (.inl e)
    have h1 : tgt b ≠ 0 := fun e => h (.inr e)
    rw [if_neg h, if_neg h]
    by_cases h2 : want < 4 ∨ 1073741824 < want
    · rw [if_pos h2, if_pos h2]; exact rnext_arg a b secs want w ha hb h0 h1 h2
    · rw [if_neg h2, if_neg h2]
      have hc : 0 ≤ clampS secs want ∧ clampS secs want < 2 ^ 33 := by unfold clampS; omega
      exact rnext_good a b (clampS secs want).toNat want.toNat secs want w ha hb h0 h1 (by omega) (by omega) (by omega) (by omega) (by omega) hsec

set_option maxHeartbeats 800000 in
theorem next_walk (a b : Nat) (secs want : Int) (w : World) (ha : a < 2 ^ 32) (hb : b < 2 ^ 32) (hsec : -9223372036854775808 ≤ secs ∧ secs ≤ 9223372036854775807) :
    Calls Try.prog 8 #[.int .u32 (a : Int), .int .u32 (b : Int), .int .i64 secs, .int .i64 want] w fun e w' => e = .returned (.bool true) ∧ Below w.heap.size w w' := by
  have p1 := fun w => wnext_any a b secs want w ha hb hsec
  have p2 := fun w => rnext_any a b secs want w ha hb hsec
  have p3 := awake_any
  generalize nextC a b secs want = c at *
  generalize nextE a b want = z at *
  have P1 := Lib.hid p1
  have P2 := Lib.hid p2
  have P3 := Lib.hid p3
  clear p1 p2 p3
  have L := St.refl w
  go_enter Try.func8, Try.ntmps8
  go_wp2_with fail
  refine (P1.out _).mono ?_
  rintro e' w1 ⟨rfl, hw1⟩
  replace L := L.call hw1
  clear hw1
  go_wp2_with fail
  refine (P2.out _).mono ?_
  rintro e' w2 ⟨rfl, hw2⟩
  replace L := L.call hw2
  clear hw2
  go_wp2_with fail
  refine (P3.out _).mono ?_
  rintro e' w3 ⟨rfl, hw3⟩
  replace L := L.call hw3
  clear hw3
  go_wp2_with fail
  go_ret
  exact ⟨rfl, L.below⟩

theorem next_any (a b secs want : Int) (w : World) (ha : (Lit.int .u32 a).wf = true) (hb : (Lit.int .u32 b).wf = true) (hs : (Lit.int .i64 secs).wf = true) :
    Calls Try.prog 8 #[.int .u32 a, .int .u32 b, .int .i64 secs, .int .i64 want] w fun e w' => e = .returned (.bool true) ∧ Below w.heap.size w w' := by
  obtain ⟨h0, h1⟩ := bounds_u32 ha
  obtain ⟨a, rfl⟩ := Int.eq_ofNat_of_zero_le h0
  obtain ⟨h2, h3⟩ := bounds_u32 hb
  obtain ⟨b, rfl⟩ := Int.eq_ofNat_of_zero_le h2
  exact next_walk a b secs want w (by omega) (by omega) (bounds_i64 hs)
theorem nxt_bounds (t l s n : Nat) (hl : l ≠ 0) : nxt t l s n ≠ 0 ∧ nxt t l s n ≤ l := by
  rw [nxt_def]
  generalize (if W256 ≤ t * s then W256 - 1 else t * s) / n = q
  split
  · omega
  · split <;> omega

set_option maxRecDepth 100000 in
set_option maxHeartbeats 1600000 in
theorem bounds_bad (a b : Nat) (secs want N : Int) (w : World) (ha : a < 2 ^ 32) (hb : b < 2 ^ 32) (hsec : -9223372036854775808 ≤ secs ∧ secs ≤ 9223372036854775807)
    (e1 : wrap64 (4 + wrap64 ((IntKind.u64.wrap want).tmod 1073741821)) = N) (h : tgt a = 0 ∨ tgt b = 0) :
    Calls Try.prog 9 #[.int .u32 (a : Int), .int .u32 (b : Int), .int .i64 secs, .int .i64 want] w fun e w' => e = .returned (.bool true) ∧ Below w.heap.size w w' := by
  have p1 := fun w => wnext_any a b secs N w ha hb hsec
  have p2 := fun w => rexpand a w ha
  have p3 := fun w => rexpand b w hb
  have p4 := awake_any
  rw [show nextC a b secs N = 0 from if_pos h, show nextE a b N = 40 from if_pos h, show ((0 : Nat) : Int) = 0 from rfl] at p1
  have L := St.refl w
  generalize tgt a = t at *
  generalize tgt b = l at *
  by_cases h0 : t = 0
  · rw [show tErr t = 40 from if_pos h0] at p2
    generalize tErr l = z at *
    have P1 := Lib.hid p1
    have P2 := Lib.hid p2
    have P3 := Lib.hid p3
    have P4 := Lib.hid p4
    clear p1 p2 p3 p4
    clear h h0
    go_enter Try.func9, Try.ntmps9
    go_upto_region 2 with fail
    rw [e1]
    clear e1
    go_wp2_with fail
    refine (P1.out _).mono ?_
    rintro e' w1 ⟨rfl, hw1⟩
    replace L := L.call hw1
    clear hw1
    go_wp2_with fail
    refine (P2.out _).mono ?_
    rintro e' w2 ⟨rfl, hw2⟩
    replace L := (L.call hw2).new (wcs t) 25
    clear hw2
    go_wp2_with fail
    refine (P3.out _).mono ?_
    rintro e' w3 ⟨rfl, hw3⟩
    replace L := (L.call hw3).new (wcs l) 25
    clear hw3
    go_wp2_with fail
    refine (P4.out _).mono ?_
    rintro e' w4 ⟨rfl, hw4⟩
    replace L := L.call hw4
    clear hw4
    go_wp2_with fail
    go_ret
    exact ⟨rfl, L.below⟩
  · have h1 : l = 0 := by omega
    rw [show tErr t = 0 from if_neg h0] at p2
    rw [show tErr l = 40 from if_pos h1] at p3
    have P1 := Lib.hid p1
    have P2 := Lib.hid p2
    have P3 := Lib.hid p3
    have P4 := Lib.hid p4
    clear p1 p2 p3 p4
    clear h h0 h1
    go_enter Try.func9, Try.ntmps9
    go_upto_region 2 with fail
    rw [e1]
    clear e1
    go_wp2_with fail
    refine (P1.out _).mono ?_
    rintro e' w1 ⟨rfl, hw1⟩
    replace L := L.call hw1
    clear hw1
    go_wp2_with fail
    refine (P2.out _).mono ?_
    rintro e' w2 ⟨rfl, hw2⟩
    replace L := (L.call hw2).new (wcs t) 25
    clear hw2
    go_wp2_with fail
    refine (P3.out _).mono ?_
    rintro e' w3 ⟨rfl, hw3⟩
    replace L := (L.call hw3).new (wcs l) 25
    clear hw3
    go_wp2_with fail
    refine (P4.out _).mono ?_
    rintro e' w4 ⟨rfl, hw4⟩
    replace L := L.call hw4
    clear hw4
    go_wp2_with fail
    go_ret
    exact ⟨rfl, L.below⟩

set_option maxRecDepth 100000 in
set_option maxHeartbeats 1600000 in
theorem bounds_good (a b : Nat) (secs want N : Int) (w : World) (ha : a < 2 ^ 32) (hb : b < 2 ^ 32) (hsec : -9223372036854775808 ≤ secs ∧ secs ≤ 9223372036854775807)
    (e1 : wrap64 (4 + wrap64 ((IntKind.u64.wrap want).tmod 1073741821)) = N) (hN : 4 ≤ N ∧ N ≤ 1073741824) (h0 : tgt a ≠ 0) (h1 : tgt b ≠ 0) :
    Calls Try.prog 9 #[.int .u32 (a : Int), .int .u32 (b : Int), .int .i64 secs, .int .i64 want] w fun e w' => e = .returned (.bool true) ∧ Below w.heap.size w w' := by
  have p1 := fun w => wnext_any a b secs N w ha hb hsec
  have p2 := fun w => rexpand a w ha
  have p3 := fun w => rexpand b w hb
  obtain ⟨x0, x1⟩ := nxt_bounds (tgt a) (tgt b) (clampS secs N).toNat N.toNat h1
  rw [show nextC a b secs N = cpt (nxt (tgt a) (tgt b) (clampS secs N).toNat N.toNat) from (if_neg (by omega)).trans (if_neg (by omega)), show nextE a b N = 0 from (if_neg (by omega)).trans (if_neg (by omega))] at p1
  rw [tErr_pos h0] at p2
  rw [tErr_pos h1] at p3
  generalize nxt (tgt a) (tgt b) (clampS secs N).toNat N.toNat = x at *
  have hxW : x < W256 := Nat.lt_of_le_of_lt x1 (tgt_lt b)
  have hlW := tgt_lt b
  obtain ⟨u1, u2, u3⟩ := tgt_cpt_le x0 hxW
  have p4 := fun w => wexpand (cpt x) w (cpt_lt hxW)
  rw [tErr_pos u3] at p4
  have p5 := fun w => rcmp (tgt (cpt x)) (tgt b) w (tgt_lt _) hlW
  have hc : cmpN (tgt (cpt x)) (tgt b) ≤ 0 := by unfold cmpN; split <;> first | decide | (rw [if_neg (by omega)]; decide)
  generalize cmpN (tgt (cpt x)) (tgt b) = z at *
  generalize cpt x = c at *
  generalize tgt a = t at *
  generalize tgt b = l at *
  generalize tgt c = u at *
  have L := St.refl w
  have P1 := Lib.hid p1
  have P2 := Lib.hid p2
  have P3 := Lib.hid p3
  have P4 := Lib.hid p4
  have P5 := Lib.hid p5
  clear p1 p2 p3 p4 p5
  clear h0 h1 x0 x1 u1 u2 u3 hxW hlW hN
  go_enter Try.func9, Try.ntmps9
  go_upto_region 2 with fail
  rw [e1]
  clear e1
  go_wp2_with fail
  refine (P1.out _).mono ?_
  rintro e' w1 ⟨rfl, hw1⟩
  replace L := L.call hw1
  clear hw1
  go_wp2_with fail
  refine (P2.out _).mono ?_
  rintro e' w2 ⟨rfl, hw2⟩
  replace L := (L.call hw2).new (wcs t) 25
  clear hw2
  go_wp2_with fail
  refine (P3.out _).mono ?_
  rintro e' w3 ⟨rfl, hw3⟩
  replace L := (L.call hw3).new (wcs l) 25
  clear hw3
  go_wp2_with fail
  refine (P4.out _).mono ?_
  rintro e' w4 ⟨rfl, hw4⟩
  replace L := (L.call hw4).new (wcs u) 25
  clear hw4
  go_upto_region 8 with fail
  generalize hg : w4.alloc (.cells #[.int .u64 (wd u 0), .int .u64 (wd u 1), .int .u64 (wd u 2), .int .u64 (wd u 3)] 25) = v at *
  clear hg
  generalize w4.heap.size = g4 at *
  generalize w3.heap.size = g3 at *
  have B4x0 := L.at (b := g4) (c := wcs u) (t := 25) (by simp)
  have c4x0 := B4x0.cell
  have l4x0 := B4x0.lt
  have B4x1 := L.at (b := g3) (c := wcs l) (t := 25) (by simp)
  have c4x1 := B4x1.cell
  have l4x1 := B4x1.lt
  go_wp2_with fail
  refine (P5.out _).mono ?_
  rintro e' w5 ⟨rfl, hw5⟩
  clear B4x0 c4x0 l4x0 B4x1 c4x1 l4x1
  replace L := L.call hw5
  clear hw5
  go_wp2_with fail
  go_ret
  exact ⟨rfl, L.below⟩

theorem bounds_any (a b secs want : Int) (w : World) (ha : (Lit.int .u32 a).wf = true) (hb : (Lit.int .u32 b).wf = true) (hs : (Lit.int .i64 secs).wf = true) :
    Calls Try.prog 9 #[.int .u32 a, .int .u32 b, .int .i64 secs, .int .i64 want] w fun e w' => e = .returned (.bool true) ∧ Below w.heap.size w w' := by
  obtain ⟨h0, h1⟩ := bounds_u32 ha
  obtain ⟨a, rfl⟩ := Int.eq_ofNat_of_zero_le h0
  obtain ⟨h2, h3⟩ := bounds_u32 hb
  obtain ⟨b, rfl⟩ := Int.eq_ofNat_of_zero_le h2
  have hN : 4 ≤ wrap64 (4 + wrap64 ((IntKind.u64.wrap want).tmod 1073741821)) ∧ wrap64 (4 + wrap64 ((IntKind.u64.wrap want).tmod 1073741821)) ≤ 1073741824 := by
    rw [IntKind.wrap_u64, Int.tmod_eq_emod_of_nonneg (by omega)]
    unfold wrap64; omega
  by_cases h : tgt a = 0 ∨ tgt b = 0
  · exact bounds_bad a b secs want _ w (by omega) (by omega) (bounds_i64 hs) rfl h
  · exact bounds_good a b secs want _ w (by omega) (by omega) (bounds_i64 hs) rfl hN (fun e => h (.inl e)) (fun e => h (.inr e))
end Go.Proofs.Ytacgcaebolmpfaa
