/- The laws' own walks: WideDivides. -/
import Derived.Test.YtkejhoadjflecaaWideLawG
namespace Go.Proofs.Ytkejhoadjflecaa
open Go.RowKit
set_option linter.unusedSimpArgs false

theorem cmp_less {r b : Nat} (h : r < b) : (cmpN r b < 0) := by rw [cmpN_neg]; exact h

set_option maxHeartbeats 800000 in
theorem divides0 (a : Nat) (w : World) :
    Calls Try.prog 11 #[wv a, wv 0] w fun e w' => e = .returned (.bool true) ∧ Below w.heap.size w w' := by
  have P1 := Lib.hid (fun w => wdiv0 a w)
  have q1 := weql 0 0 W_pos W_pos
  rw [beq_self_eq_true, wv_zero] at q1
  have L := St.new2 w (wcs a) (wcs 0) 24 24
  go_enter Try.func11, Try.ntmps11
  go_wp2_with fail
  refine (P1.out _).mono ?_
  rintro e w1 ⟨rfl, hb1⟩
  replace L := ((L.call hb1).new (wcs 0) 24).new (wcs 0) 24
  rw [show (w1.alloc (.cells (wcs 0) 24)).heap.size = w1.heap.size + 1 from by simp] at L
  clear hb1
  rw [wv_zero]
  obtain ⟨c1, c0, l1, l0⟩ := L.c2
  obtain ⟨c3, c2, l3, l2⟩ := L.tail.tail.c2
  rw [wc_zero] at c1 c0 c3
  as_aux_lemma =>
    go_wp2_with fail
    refine (awake_any _).mono ?_
    rintro e w5 ⟨rfl, hb5⟩
    replace L := L.call hb5
    clear c1 c0 l1 l0 c3 c2 l3 l2
    go_wp2_with fail
    go_ret
    exact ⟨rfl, L.below⟩
set_option maxHeartbeats 800000 in
theorem divides_walk (a b q r : Nat) (w : World) (ha : a < W256) (hb : b < W256) (hz : b ≠ 0) (hq : q < W256) (hr : r < W256) (hle : q * b < W256) (hsum : q * b + r = a) (hlt : r < b)
    (P1 : Hid (∀ w, Calls Try.prog 34 #[wv a, wv b] w fun e w' => e = .returned (.tuple #[wv q, wv r, .int .i64 0]) ∧ Below w.heap.size w w')) :
    Calls Try.prog 11 #[wv a, wv b] w fun e w' => e = .returned (.bool true) ∧ Below w.heap.size w w' := by
  have q0 := weql b 0 hb W_pos
  rw [show (b == 0) = false from by simpa using hz, wv_zero] at q0
  have p2 := fun w => wmul q b w hq hb
  rw [Nat.mod_eq_of_lt hle, decide_eq_false (by omega)] at p2
  have p3 := fun w => wadd (q * b) r w hle hr
  rw [hsum, Nat.mod_eq_of_lt ha, decide_eq_false (by omega)] at p3
  have P2 := Lib.hid p2
  have P3 := Lib.hid p3
  have P4 := Lib.hid (fun w => wcmp r b w hr hb)
  have q1 := weql a a ha ha
  rw [beq_self_eq_true] at q1
  have hc := cmp_less hlt
  clear hsum hle p2 p3
  generalize q * b = p at *
  generalize cmpN r b = c at *
  have L := St.new2 w (wcs a) (wcs b) 24 24
  go_enter Try.func11, Try.ntmps11
  go_wp2_with fail
  refine (P1.out _).mono ?_
  rintro e w1 ⟨rfl, hb1⟩
  replace L := ((L.call hb1).new (wcs q) 24).new (wcs r) 24
  rw [show (w1.alloc (.cells (wcs q) 24)).heap.size = w1.heap.size + 1 from by simp] at L
  clear hb1
  obtain ⟨c1, c0, l1, l0⟩ := L.c2
  obtain ⟨c3, c2, l3, l2⟩ := L.tail.tail.c2
  go_wp2_with fail
  refine (P2.out _).mono ?_
  rintro e w2 ⟨rfl, hb2⟩
  replace L := (L.call hb2).new (wcs p) 24
  clear c1 c0 l1 l0 c3 c2 l3 l2 hb2
  obtain ⟨c1, c0, l1, l0⟩ := L.c2
  go_wp2_with fail
  refine (P3.out _).mono ?_
  rintro e w3 ⟨rfl, hb3⟩
  replace L := (L.call hb3).new (wcs a) 24
  clear c1 c0 l1 l0 hb3
  obtain ⟨c5, c4, l5, l4⟩ := L.c2
  obtain ⟨c1, c0, l1, l0⟩ := L.tail.tail.c2
  obtain ⟨c3, c2, l3, l2⟩ := L.tail.tail.tail.tail.c2
  as_aux_lemma =>
    go_wp2_with fail
    refine (P4.out _).mono ?_
    rintro e w5 ⟨rfl, hb5⟩
    replace L := L.call hb5
    clear c1 c0 l1 l0 c3 c2 l3 l2 c5 c4 l5 l4
    go_wp2_with fail
    go_ret
    exact ⟨rfl, L.below⟩
theorem divides_any (a b : Nat) (w : World) (ha : a < W256) (hb : b < W256) :
    Calls Try.prog 11 #[wv a, wv b] w fun e w' => e = .returned (.bool true) ∧ Below w.heap.size w w' := by
  by_cases hz : b = 0
  · subst hz
    exact divides0 a w
  · have h := Nat.div_add_mod a b
    rw [Nat.mul_comm] at h
    exact divides_walk a b (a / b) (a % b) w ha hb hz (Nat.lt_of_le_of_lt (Nat.div_le_self _ _) ha) (Nat.lt_of_le_of_lt (Nat.mod_le _ _) ha) (by omega) h (Nat.mod_lt _ (Nat.pos_of_ne_zero hz))
      (Lib.hid fun w => wdiv a b w ha hb hz)
end Go.Proofs.Ytkejhoadjflecaa
