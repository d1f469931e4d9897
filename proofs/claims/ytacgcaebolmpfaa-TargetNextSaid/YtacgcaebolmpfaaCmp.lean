/- The walks of wide.Compare and of what it calls. -/
import Derived.Test.YtacgcaebolmpfaaRows
import Derived.Test.YtacgcaebolmpfaaWideBase
namespace Go.Proofs.Ytacgcaebolmpfaa
open Go.RowKit

/-- the order of two integers -/
def cmpI (x y : Int) : Int := if x < y then -1 else if y < x then 1 else 0
theorem cmpI_range (x y : Int) : -1 ≤ cmpI x y ∧ cmpI x y ≤ 1 := by unfold cmpI; split <;> (try split) <;> omega

theorem cmpu (x y : Int) (w : World) : Calls Try.prog 41 #[.int .u64 x, .int .u64 y] w fun e w' => e = .returned (.int .i64 (cmpI x y)) ∧ w = w' := by
  have nx : (x != x) = false := by simp
  have ny : (y != y) = false := by simp
  by_cases h1 : x < y
  · have e : cmpI x y = -1 := by unfold cmpI; rw [if_pos h1]
    rw [e]
    clear e
    go_enter Try.func41, Try.ntmps41
    go_wp2
    go_ret
    exact ⟨rfl, rfl⟩
  · by_cases h2 : y < x
    · have e : cmpI x y = 1 := by unfold cmpI; rw [if_neg h1, if_pos h2]
      rw [e]
      clear e
      go_enter Try.func41, Try.ntmps41
      go_wp2
      go_ret
      exact ⟨rfl, rfl⟩
    · have e : cmpI x y = 0 := by unfold cmpI; rw [if_neg h1, if_neg h2]
      rw [e]
      clear e
      go_enter Try.func41, Try.ntmps41
      go_wp2
      go_ret
      exact ⟨rfl, rfl⟩

/-- the first that is not 0 -/
def or4 (z : Nat → Int) : Int := if z 0 ≠ 0 then z 0 else if z 1 ≠ 0 then z 1 else if z 2 ≠ 0 then z 2 else z 3
theorem or4_at (z : Nat → Int) (k : Nat) (hk : k < 4) (h : ∀ j, j < k → z j = 0) (hz : z k ≠ 0) : or4 z = z k := by
  unfold or4
  rcases (by omega : k = 0 ∨ k = 1 ∨ k = 2 ∨ k = 3) with rfl | rfl | rfl | rfl
  · rw [if_pos hz]
  · rw [if_neg (by simp [h 0]), if_pos hz]
  · rw [if_neg (by simp [h 0]), if_neg (by simp [h 1]), if_pos hz]
  · rw [if_neg (by simp [h 0]), if_neg (by simp [h 1]), if_neg (by simp [h 2])]
theorem or4_none (z : Nat → Int) (h : ∀ j, j < 4 → z j = 0) : or4 z = 0 := by
  unfold or4; simp [h 0, h 1, h 2, h 3]

theorem zeros_succ {z : Nat → Int} {k : Nat} (h : ∀ j, j < k → z j = 0) (h0 : z k = 0) : ∀ j, j < k + 1 → z j = 0 := by
  intro j hj
  by_cases hjk : j < k
  · exact h j hjk
  · rw [show j = k from by omega]; exact h0

set_option maxHeartbeats 400000 in
theorem cmpor (g : Nat) (z : Nat → Int) (w : World) (hc : ∀ i, i < 4 → w.cell? ⟨g, i, none⟩ = some (.int .i64 (z i))) :
    Calls Try.prog 40 #[.slice (some ⟨g, 0, none⟩) 4 4] w fun e w' => e = .returned (.int .i64 (or4 z)) ∧ w = w' := by
  have HC := Lib.hid hc
  clear hc
  go_enter Try.func40, Try.ntmps40
  go_wp2
  go_loop [8] (fun i => ∃ k : Nat, k ≤ 4 ∧ i = .int .i64 k ∧ Hid (∀ j, j < k → z j = 0)) (fun i => 4 - (intOf i).toNat)
  case atStart => exact ⟨0, by omega, rfl, fun j hj => by omega⟩
  case round =>
    obtain ⟨k, hk, rfl, hz⟩ := hrel
    by_cases hlt : k < 4
    · have c := HC.out k hlt
      by_cases h0 : z k = 0
      · rw [h0] at c
        go_wp2
        go_round
        case rel => exact ⟨k + 1, by omega, by go_num, zeros_succ hz.out h0⟩
        case measure => simp [intOf]; omega
      · have hne : (z k != 0) = true := by simpa using h0
        have E := Lib.hid (or4_at z k hlt hz.out h0)
        clear h0
        go_wp2
        go_ret
        exact ⟨by rw [E.out]; rfl, rfl⟩
    · obtain rfl : k = 4 := by omega
      go_wp2
      go_ret
      exact ⟨by rw [or4_none z hz.out]; rfl, rfl⟩

theorem cmp_four (x0 x1 x2 x3 y0 y1 y2 y3 : Nat) (a0 : x0 < 2 ^ 64) (a1 : x1 < 2 ^ 64) (a2 : x2 < 2 ^ 64) (b0 : y0 < 2 ^ 64) (b1 : y1 < 2 ^ 64) (b2 : y2 < 2 ^ 64) :
    (if cmpI x3 y3 ≠ 0 then cmpI x3 y3 else if cmpI x2 y2 ≠ 0 then cmpI x2 y2 else if cmpI x1 y1 ≠ 0 then cmpI x1 y1 else cmpI x0 y0) =
    cmpN (x0 + 2 ^ 64 * x1 + 2 ^ 128 * x2 + 2 ^ 192 * x3) (y0 + 2 ^ 64 * y1 + 2 ^ 128 * y2 + 2 ^ 192 * y3) := by
  have c : ∀ p q : Nat, (p < q ∧ cmpI p q = -1) ∨ (p = q ∧ cmpI p q = 0) ∨ (q < p ∧ cmpI p q = 1) := by
    intro p q; unfold cmpI
    by_cases h1 : p < q
    · left; exact ⟨h1, by rw [if_pos (by omega)]⟩
    · by_cases h2 : q < p
      · right; right; exact ⟨h2, by rw [if_neg (by omega), if_pos (by omega)]⟩
      · right; left; exact ⟨by omega, by rw [if_neg (by omega), if_neg (by omega)]⟩
  have d : ∀ p q : Nat, (p < q → cmpN p q = -1) ∧ (p = q → cmpN p q = 0) ∧ (q < p → cmpN p q = 1) := by
    intro p q; unfold cmpN
    refine ⟨fun h => by rw [if_pos h], fun h => by subst h; simp, fun h => by rw [if_neg (by omega), if_pos h]⟩
  obtain ⟨d1, d2, d3⟩ := d (x0 + 2 ^ 64 * x1 + 2 ^ 128 * x2 + 2 ^ 192 * x3) (y0 + 2 ^ 64 * y1 + 2 ^ 128 * y2 + 2 ^ 192 * y3)
  rcases c x3 y3 with ⟨h3, e3⟩ | ⟨h3, e3⟩ | ⟨h3, e3⟩ <;> rw [e3]
  · rw [d1 (by omega)]; simp
  · rcases c x2 y2 with ⟨h2, e2⟩ | ⟨h2, e2⟩ | ⟨h2, e2⟩ <;> rw [e2]
    · rw [d1 (by omega)]; simp
    · rcases c x1 y1 with ⟨h1, e1⟩ | ⟨h1, e1⟩ | ⟨h1, e1⟩ <;> rw [e1]
      · rw [d1 (by omega)]; simp
      · rcases c x0 y0 with ⟨h0, e0⟩ | ⟨h0, e0⟩ | ⟨h0, e0⟩ <;> rw [e0]
        · rw [d1 (by omega)]; simp
        · rw [d2 (by omega)]; simp
        · rw [d3 (by omega)]; simp
      · rw [d3 (by omega)]; simp
    · rw [d3 (by omega)]; simp
  · rw [d3 (by omega)]; simp
theorem four_words (n : Nat) (h : n < 2 ^ 256) : wn n 0 + 2 ^ 64 * wn n 1 + 2 ^ 128 * wn n 2 + 2 ^ 192 * wn n 3 = n := by unfold wn; omega
theorem cmp_words (a b : Nat) (ha : a < W256) (hb : b < W256) :
    or4 (fun i => cmpI (wd a (3 - i)) (wd b (3 - i))) = cmpN a b := by
  rw [W256_eq] at *
  have h := cmp_four (wn a 0) (wn a 1) (wn a 2) (wn a 3) (wn b 0) (wn b 1) (wn b 2) (wn b 3) (wn_lt _ _) (wn_lt _ _) (wn_lt _ _) (wn_lt _ _) (wn_lt _ _) (wn_lt _ _)
  rw [four_words a ha, four_words b hb] at h
  exact h

set_option maxRecDepth 100000 in
set_option maxHeartbeats 400000 in
theorem wcmp (a b : Nat) (w : World) (ha : a < W256) (hb : b < W256) :
    Calls Try.prog 29 #[wv a, wv b] w fun e w' => e = .returned (.int .i64 (cmpN a b)) ∧ Below w.heap.size w w' := by
  have E := Lib.hid (cmp_words a b ha hb)
  have L := St.new2 w (wcs a) (wcs b) 25 25
  go_enter Try.func29, Try.ntmps29
  go_upto_region 1 with fail
  generalize (w.alloc (.cells #[.int .u64 (wd a 0), .int .u64 (wd a 1), .int .u64 (wd a 2), .int .u64 (wd a 3)] 25)).alloc (.cells #[.int .u64 (wd b 0), .int .u64 (wd b 1), .int .u64 (wd b 2), .int .u64 (wd b 3)] 25) = v at *
  obtain ⟨c1, c0, l1, l0⟩ := L.c2
  go_region_held3 (fun w' => Below v.heap.size v w' ∧ (∀ b o, b < v.heap.size → w'.cell? ⟨b, o, none⟩ = v.cell? ⟨b, o, none⟩)) (first | exact SK.start v | (with_reducible assumption) | exact SK.alloc (by assumption) _)
    (first | (go_at_call 41; refine (cmpu _ _ _).mono ?_; rintro e w' ⟨rfl, rfl⟩) | (go_at_call 40; refine (cmpor _ (fun i => cmpI (wd a (3 - i)) (wd b (3 - i))) _ ?_).mono ?_; (intro i hi; rcases (by omega : i = 0 ∨ i = 1 ∨ i = 2 ∨ i = 3) with rfl | rfl | rfl | rfl <;> simp [go_sem]); rintro e w' ⟨rfl, rfl⟩) | fail)
  rename_i hH
  go_wp2
  go_ret
  exact ⟨by rw [← E.out]; rfl, L.below.trans (hH.1.mono L.size)⟩
end Go.Proofs.Ytacgcaebolmpfaa
