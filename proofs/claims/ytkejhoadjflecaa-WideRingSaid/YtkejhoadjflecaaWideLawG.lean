/- The laws' own walks: WideProducts, WideDivides, WidePowers. -/
import Derived.Test.YtkejhoadjflecaaRefMul
import Derived.Test.YtkejhoadjflecaaMul
import Derived.Test.YtkejhoadjflecaaWideLawB
namespace Go.Proofs.Ytkejhoadjflecaa
open Go.RowKit
set_option linter.unusedSimpArgs false

set_option maxHeartbeats 800000 in
theorem prod_any (a b : Nat) (w : World) (ha : a < W256) (hb : b < W256) :
    Calls Try.prog 6 #[wv a, wv b] w fun e w' => e = .returned (.bool true) ∧ Below w.heap.size w w' := by
  have p1 := fun w => wmul a b w ha hb
  have p2 := fun w => rmul a b w ha hb
  have q1 := weql (a * b % W256) (a * b % W256) (mod_W _) (mod_W _)
  generalize a * b % W256 = q at *
  generalize decide (W256 ≤ a * b) = over at *
  have P1 := Lib.hid p1
  have P2 := Lib.hid p2
  clear p1 p2
  rw [beq_self_eq_true] at q1
  go_enter Try.func6, Try.ntmps6
  go_wp2_with fail
  have L := St.new2 w (wcs a) (wcs b) 24 24
  refine (P1.out _).mono ?_
  rintro e w1 ⟨rfl, hb1⟩
  replace L := (L.call hb1).new (wcs q) 24
  obtain ⟨c1, c0, l1, l0⟩ := L.tail.c2
  go_wp2_with fail
  refine (P2.out _).mono ?_
  rintro e w2 ⟨rfl, hb2⟩
  replace L := (L.call hb2).new (wcs q) 24
  clear c1 c0 l1 l0 hb1 hb2
  obtain ⟨c1, c0, l1, l0⟩ := L.c2
  as_aux_lemma =>
    go_wp2_with fail
    refine (awake_any _).mono ?_
    rintro e w5 ⟨rfl, hb5⟩
    replace L := L.call hb5
    clear c1 c0 l1 l0
    go_wp2_with fail
    go_ret
    exact ⟨rfl, L.below⟩
end Go.Proofs.Ytkejhoadjflecaa
