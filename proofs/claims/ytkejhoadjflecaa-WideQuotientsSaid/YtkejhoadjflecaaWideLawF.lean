/- The laws' own walks: WideQuotients. -/
import Derived.Test.YtkejhoadjflecaaRefDiv
import Derived.Test.YtkejhoadjflecaaWideLawB
namespace Go.Proofs.Ytkejhoadjflecaa
open Go.RowKit
set_option linter.unusedSimpArgs false

set_option maxHeartbeats 800000 in
theorem quot_walk (a b q r : Nat) (k : Int) (w : World) (hq : q < W256) (hr : r < W256)
    (P1 : Hid (∀ w, Calls Try.prog 34 #[wv a, wv b] w fun e w' => e = .returned (.tuple #[wv q, wv r, .int .i64 k]) ∧ Below w.heap.size w w'))
    (P2 : Hid (∀ w, Calls Try.prog 35 #[wv a, wv b] w fun e w' => e = .returned (.tuple #[wv q, wv r, .int .i64 k]) ∧ Below w.heap.size w w')) :
    Calls Try.prog 10 #[wv a, wv b] w fun e w' => e = .returned (.bool true) ∧ Below w.heap.size w w' := by
  have q1 := weql q q hq hq
  have q2 := weql r r hr hr
  rw [beq_self_eq_true] at q1 q2
  go_enter Try.func10, Try.ntmps10
  go_wp2_with fail
  have L := St.new2 w (wcs a) (wcs b) 24 24
  refine (P1.out _).mono ?_
  rintro e w1 ⟨rfl, hb1⟩
  replace L := ((L.call hb1).new (wcs q) 24).new (wcs r) 24
  rw [show (w1.alloc (.cells (wcs q) 24)).heap.size = w1.heap.size + 1 from by simp] at L
  obtain ⟨c1, c0, l1, l0⟩ := L.tail.tail.c2
  go_wp2_with fail
  refine (P2.out _).mono ?_
  rintro e w2 ⟨rfl, hb2⟩
  replace L := ((L.call hb2).new (wcs q) 24).new (wcs r) 24
  rw [show (w2.alloc (.cells (wcs q) 24)).heap.size = w2.heap.size + 1 from by simp] at L
  clear c1 c0 l1 l0 hb1 hb2
  obtain ⟨c1, c0, l1, l0⟩ := L.c2
  obtain ⟨c3, c2, l3, l2⟩ := L.tail.tail.c2
  as_aux_lemma =>
    go_wp2_with fail
    refine (awake_any _).mono ?_
    rintro e w5 ⟨rfl, hb5⟩
    replace L := L.call hb5
    clear c1 c0 l1 l0 c3 c2 l3 l2
    go_wp2_with fail
    go_ret
    exact ⟨rfl, L.below⟩
theorem quot_any (a b : Nat) (w : World) (ha : a < W256) (hb : b < W256) :
    Calls Try.prog 10 #[wv a, wv b] w fun e w' => e = .returned (.bool true) ∧ Below w.heap.size w w' := by
  by_cases hz : b = 0
  · subst hz
    exact quot_walk a 0 0 0 30 w W_pos W_pos (Lib.hid fun w => wdiv0 a w) (Lib.hid fun w => rdiv0 a w)
  · exact quot_walk a b (a / b) (a % b) 0 w (Nat.lt_of_le_of_lt (Nat.div_le_self _ _) ha) (Nat.lt_of_le_of_lt (Nat.mod_le _ _) ha)
      (Lib.hid fun w => wdiv a b w ha hb hz) (Lib.hid fun w => rdiv a b w ha hb hz)
end Go.Proofs.Ytkejhoadjflecaa
