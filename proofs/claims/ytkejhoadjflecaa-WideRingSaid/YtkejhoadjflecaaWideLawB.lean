/- The laws' own walks: WideSums. -/
import Derived.Test.YtkejhoadjflecaaWideLawA
import Derived.Test.YtkejhoadjflecaaWideRefB
namespace Go.Proofs.Ytkejhoadjflecaa
open Go.RowKit

set_option maxHeartbeats 400000 in
theorem sums_any (a b : Nat) (w : World) (ha : a < W256) (hb : b < W256) :
    Calls Try.prog 3 #[wv a, wv b] w fun e w' => e = .returned (.bool true) ∧ Below w.heap.size w w' := by
  have p1 := fun w => wadd a b w ha hb
  have p2 := fun w => radd a b w ha hb
  have p3 := fun w => wsub a b w ha hb
  have p4 := fun w => rsub a b w ha hb
  have q1 := weql ((a + b) % W256) ((a + b) % W256) (mod_W _) (mod_W _)
  have q2 := weql ((a + W256 - b) % W256) ((a + W256 - b) % W256) (mod_W _) (mod_W _)
  generalize (a + b) % W256 = s at *
  generalize (a + W256 - b) % W256 = d at *
  generalize decide (W256 ≤ a + b) = over at *
  generalize decide (a < b) = under at *
  have P1 := Lib.hid p1
  have P2 := Lib.hid p2
  have P3 := Lib.hid p3
  have P4 := Lib.hid p4
  clear p1 p2 p3 p4
  rw [beq_self_eq_true] at q1 q2
  go_enter Try.func3, Try.ntmps3
  go_wp2_with fail
  have L := St.new2 w (wcs a) (wcs b) 24 24
  refine (P1.out _).mono ?_
  rintro e w1 ⟨rfl, hb1⟩
  replace L := (L.call hb1).new (wcs s) 24
  obtain ⟨c1, c0, l1, l0⟩ := L.tail.c2
  go_wp2_with fail
  refine (P2.out _).mono ?_
  rintro e w2 ⟨rfl, hb2⟩
  replace L := (L.call hb2).new (wcs s) 24
  clear c1 c0 l1 l0
  obtain ⟨c1, c0, l1, l0⟩ := L.tail.tail.c2
  go_wp2_with fail
  refine (P3.out _).mono ?_
  rintro e w3 ⟨rfl, hb3⟩
  replace L := (L.call hb3).new (wcs d) 24
  clear c1 c0 l1 l0
  obtain ⟨c1, c0, l1, l0⟩ := L.tail.tail.tail.c2
  go_wp2_with fail
  refine (P4.out _).mono ?_
  rintro e w4 ⟨rfl, hb4⟩
  replace L := (L.call hb4).new (wcs d) 24
  clear c1 c0 l1 l0 hb1 hb2 hb3 hb4
  obtain ⟨c1, c0, l1, l0⟩ := L.c2
  obtain ⟨c3, c2, l3, l2⟩ := L.tail.tail.c2
  as_aux_lemma =>
    go_upto_region 5 with fail
    iterate 26 (first | ((with_reducible refine wpList_wanted ?hw (fun _ _ => ?_)); (case hw => rfl)) | go_values | go_step | go_upon)
    as_aux_lemma =>
      go_wp2_with fail
      refine (awake_any _).mono ?_
      rintro e w5 ⟨rfl, hb5⟩
      replace L := L.call hb5
      clear c1 c0 l1 l0 c3 c2 l3 l2
      go_wp2_with fail
      go_ret
      exact ⟨rfl, L.below⟩
end Go.Proofs.Ytkejhoadjflecaa
