/- The laws' own walks: WideOrders. -/
import Derived.Test.YtkejhoadjflecaaWideLawA
import Derived.Test.YtkejhoadjflecaaCmp
namespace Go.Proofs.Ytkejhoadjflecaa
open Go.RowKit

theorem cmpN_range (a b : Nat) : -1 ≤ cmpN a b ∧ cmpN a b ≤ 1 := by unfold cmpN; split <;> (try split) <;> omega
theorem orders1 (a b : Nat) : (cmpN b a != -cmpN a b) = false := by
  unfold cmpN
  by_cases h1 : a < b
  · rw [if_neg (show ¬ b < a by omega), if_pos h1, if_pos h1]; rfl
  · by_cases h2 : b < a
    · rw [if_pos h2, if_neg h1, if_pos h2]; rfl
    · rw [if_neg h2, if_neg h1, if_neg h1, if_neg h2]; rfl
theorem orders2 (a b : Nat) : ((cmpN a b == 0) != (a == b)) = false := by
  unfold cmpN
  by_cases h1 : a < b
  · rw [if_pos h1]; have : (a == b) = false := by simp; omega
    rw [this]; rfl
  · by_cases h2 : b < a
    · rw [if_neg h1, if_pos h2]; have : (a == b) = false := by simp; omega
      rw [this]; rfl
    · have : a = b := by omega
      subst this; simp
theorem orders3 (a b : Nat) : (decide (a < b) != decide (cmpN a b < 0)) = false := by
  rw [show decide (cmpN a b < 0) = decide (a < b) from by rw [decide_eq_decide]; exact Iff.of_eq (cmpN_neg a b)]; simp
theorem cmpN_le (a b : Nat) : cmpN a b ≤ 0 ↔ a ≤ b := by
  unfold cmpN
  by_cases h1 : a < b
  · rw [if_pos h1]; omega
  · by_cases h2 : b < a
    · rw [if_neg h1, if_pos h2]; omega
    · rw [if_neg h1, if_neg h2]; omega
theorem St.new3 (w : World) (c0 c1 c2 : Array Value) (t0 t1 t2 : TypeId) : St w.heap.size w (((w.alloc (.cells c0 t0)).alloc (.cells c1 t1)).alloc (.cells c2 t2)) [(w.heap.size + 1 + 1, c2, t2), (w.heap.size + 1, c1, t1), (w.heap.size, c0, t0)] := by
  have h := (St.new2 w c0 c1 t0 t1).new c2 t2
  rw [show ((w.alloc (.cells c0 t0)).alloc (.cells c1 t1)).heap.size = w.heap.size + 1 + 1 from by simp] at h
  exact h
theorem St.c3 {B : Nat} {W w : World} {b0 b1 b2 : Nat} {c0 c1 c2 : Array Value} {t0 t1 t2 : TypeId} {l : List (Nat × Array Value × TypeId)} (h : St B W w ((b0, c0, t0) :: (b1, c1, t1) :: (b2, c2, t2) :: l)) :
    (∀ o, w.cell? ⟨b0, o, none⟩ = c0[o]?) ∧ (∀ o, w.cell? ⟨b1, o, none⟩ = c1[o]?) ∧ (∀ o, w.cell? ⟨b2, o, none⟩ = c2[o]?) ∧ b0 < w.heap.size ∧ b1 < w.heap.size ∧ b2 < w.heap.size := by
  obtain ⟨h0, h1, l0, l1⟩ := h.c2
  obtain ⟨_, h2, _, l2⟩ := h.tail.c2
  exact ⟨h0, h1, h2, l0, l1, l2⟩

set_option maxRecDepth 100000 in
set_option maxHeartbeats 800000 in
theorem orders_any (a b c : Nat) (w : World) (ha : a < W256) (hb : b < W256) (hc : c < W256) :
    Calls Try.prog 8 #[wv a, wv b, wv c] w fun e w' => e = .returned (.bool true) ∧ Below w.heap.size w w' := by
  have q1 := weql a b ha hb
  have n1 := orders1 a b
  have n2 := orders2 a b
  have n3 := orders3 a b
  have hz : cmpN a b ≤ 0 → cmpN b c ≤ 0 → cmpN a c ≤ 0 := fun h1 h2 => (cmpN_le a c).2 (Nat.le_trans ((cmpN_le a b).1 h1) ((cmpN_le b c).1 h2))
  obtain ⟨r1, r2⟩ := cmpN_range a b
  have P := Lib.hid (fun w => wsub a b w ha hb)
  have HZ := Lib.hid hz
  clear hz
  have L := St.new3 w (wcs a) (wcs b) (wcs c) 24 24 24
  go_enter Try.func8, Try.ntmps8
  go_upto_region 1 with fail
  generalize ((w.alloc (.cells #[.int .u64 (wd a 0), .int .u64 (wd a 1), .int .u64 (wd a 2), .int .u64 (wd a 3)] 24)).alloc (.cells #[.int .u64 (wd b 0), .int .u64 (wd b 1), .int .u64 (wd b 2), .int .u64 (wd b 3)] 24)).alloc (.cells #[.int .u64 (wd c 0), .int .u64 (wd c 1), .int .u64 (wd c 2), .int .u64 (wd c 3)] 24) = v at *
  obtain ⟨c2, c1, c0, l2, l1, l0⟩ := L.c3
  go_region_held3 (fun w' => Below v.heap.size v w' ∧ (∀ b o, b < v.heap.size → w'.cell? ⟨b, o, none⟩ = v.cell? ⟨b, o, none⟩)) (first | exact SK.start v | exact SK.keep (by assumption) hw')
    (first | (go_at_call 25; refine (wcmp _ _ _ (by assumption) (by assumption)).mono ?_; rintro e w' ⟨rfl, hw'⟩) | fail)
  rename_i hK
  replace L := L.call hK.1
  clear hK hw' c2 c1 c0 l2 l1 l0
  obtain ⟨c2, c1, c0, l2, l1, l0⟩ := L.c3
  generalize cmpN a b = x at *
  generalize cmpN b c = y at *
  generalize cmpN a c = z at *
  go_wp2_with fail
  refine (wsub a b _ ha hb).mono ?_
  rintro e w1 ⟨rfl, hw1⟩
  replace L := L.call hw1
  clear c2 c1 c0 l2 l1 l0
  generalize (a + W256 - b) % W256 = d at *
  generalize decide (a < b) = under at *
  generalize (a == b) = same at *
  replace L := (L.new (wcs d) 24).sub (l' := [(w.heap.size + 1 + 1, wcs c, 24), (w.heap.size + 1, wcs b, 24), (w.heap.size, wcs a, 24)]) (by intro x hx; exact List.mem_cons_of_mem _ hx)
  go_upto_region 3 with fail
  generalize w1.alloc (.cells #[.int .u64 (wd d 0), .int .u64 (wd d 1), .int .u64 (wd d 2), .int .u64 (wd d 3)] 24) = v1 at *
  obtain ⟨c2, c1, c0, l2, l1, l0⟩ := L.c3
  go_wp2_with fail
  refine (wcmp _ _ _ hb ha).mono ?_
  rintro e w2 ⟨rfl, hw2⟩
  replace L := L.call hw2
  clear c2 c1 c0 l2 l1 l0
  obtain ⟨c2, c1, c0, l2, l1, l0⟩ := L.c3
  generalize cmpN b a = x' at *
  obtain rfl : under = decide (x < 0) := by simpa using n3
  obtain rfl : same = (x == 0) := by
    revert n2; cases same <;> cases (x == 0) <;> simp
  clear n3 n2
  clear hw' hw1 hw2
  simp only []
  as_aux_lemma =>
    clear P
    by_cases hx : x ≤ 0
    · by_cases hy : y ≤ 0
      · have hz := HZ.out hx hy
        go_wp2_with (go_at_call 17; refine (awake_any _).mono ?_; rintro e w5 ⟨rfl, hb5⟩)
        go_ret
        exact ⟨rfl, (L.call hb5).below⟩
      · have hy' : decide (y ≤ 0) = false := by simpa using hy
        go_wp2_with (go_at_call 17; refine (awake_any _).mono ?_; rintro e w5 ⟨rfl, hb5⟩)
        go_ret
        exact ⟨rfl, L.below⟩
    · have hx' : decide (x ≤ 0) = false := by simpa using hx
      go_wp2_with (go_at_call 17; refine (awake_any _).mono ?_; rintro e w5 ⟨rfl, hb5⟩)
      go_ret
      exact ⟨rfl, L.below⟩
end Go.Proofs.Ytkejhoadjflecaa
