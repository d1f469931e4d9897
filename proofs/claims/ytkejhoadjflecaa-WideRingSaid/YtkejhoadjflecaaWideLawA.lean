/- The laws' own walks: WideBack. -/
import Derived.Test.YtkejhoadjflecaaWideA
import Derived.Test.YtkejhoadjflecaaEq
namespace Go.Proofs.Ytkejhoadjflecaa
open Go.RowKit

theorem one_lt : 1 < W256 := by rw [W256_eq]; decide
theorem isAgg_u64 (w : World) : (isAgg 22).run Try.prog w = .ok false w := by kernel_rfl
theorem sizeOf_u64 (w : World) : (Go.sizeOf 22).run Try.prog w = .ok 1 w := by kernel_rfl
theorem wd_of (n : Nat) : ∀ i, i < 4 → (wcs n)[i]? = some (.int .u64 (wd n i)) := by
  intro i h; rcases (by omega : i = 0 ∨ i = 1 ∨ i = 2 ∨ i = 3) with h | h | h | h <;> subst h <;> rfl
theorem wd_all (a b : Nat) (ha : a < W256) (hb : b < W256) : ((List.range 4).all fun i => wd a i == wd b i) = (a == b) := by
  rw [W256_eq] at *
  rw [Bool.eq_iff_iff, List.all_eq_true, beq_iff_eq]
  constructor
  · intro h
    refine wn_ext ha hb fun k hk => ?_
    have := h k (List.mem_range.2 hk)
    rw [beq_iff_eq, wd_eq, wd_eq] at this
    omega
  · rintro rfl; simp
/-- '==' on two numbers -/
theorem weql (a b : Nat) (ha : a < W256) (hb : b < W256) (w : World) : (binOp .eql 24 (wv a) (wv b)).run Try.prog w = .ok (.bool (a == b)) w := by
  rw [← wd_all a b ha hb]
  exact run_eql_ints 24 22 4 .u64 .u64 (wcs a) (wcs b) (wd a) (wd b) w Try.underlying24 Try.underlying22 isAgg_u64 sizeOf_u64 (wd_of a) (wd_of b)

set_option maxHeartbeats 400000 in
theorem awake_any (w : World) : Calls Try.prog 17 #[] w fun e w' => e = .returned (.bool true) ∧ Below w.heap.size w w' := by
  have h := wadd 1 1 w one_lt one_lt
  have e : decide (W256 ≤ 1 + 1) = false := by rw [W256_eq]; decide
  rw [e] at h
  unfold wv at h
  have e1 : wd 1 0 = 1 := rfl
  have e2 : wd 1 1 = 0 := rfl
  have e3 : wd 1 2 = 0 := rfl
  have e4 : wd 1 3 = 0 := rfl
  have e5 : (1 + 1) % W256 = 2 := by rw [W256_eq]
  have e6 : wd 2 0 = 2 := rfl
  have e7 : wd 2 1 = 0 := rfl
  have e8 : wd 2 2 = 0 := rfl
  have e9 : wd 2 3 = 0 := rfl
  rw [e1, e2, e3, e4, e5, e6, e7, e8, e9] at h
  have hq := weql 2 2 (by rw [W256_eq]; decide) (by rw [W256_eq]; decide)
  rw [wv, e6, e7, e8, e9, beq_self_eq_true] at hq
  have H := Lib.hid h
  clear h e e1 e2 e3 e4 e5 e6 e7 e8 e9
  go_enter Try.func17, Try.ntmps17
  go_wp2_with (go_at_call 13; refine H.out.mono ?_; rintro e w1 ⟨rfl, hb1⟩)
  go_ret
  exact ⟨rfl, hb1.alloc hb1.size _⟩

theorem add_lt (a b : Nat) : (a + b) % W256 < W256 := Nat.mod_lt _ (by rw [W256_eq]; exact Nat.two_pow_pos _)
theorem sub_lt (a b : Nat) : (a + W256 - b) % W256 < W256 := Nat.mod_lt _ (by rw [W256_eq]; exact Nat.two_pow_pos _)
theorem back_eq (a b : Nat) (ha : a < W256) (hb : b < W256) : ((a + b) % W256 + W256 - b) % W256 = a := by rw [W256_eq] at *; omega
theorem back_over (a b : Nat) (ha : a < W256) (hb : b < W256) : (decide (W256 ≤ a + b) == decide ((a + b) % W256 < b)) = true := by
  rw [beq_iff_eq, decide_eq_decide, W256_eq] at *; omega

set_option maxHeartbeats 400000 in
theorem back_any (a b : Nat) (w : World) (ha : a < W256) (hb : b < W256) :
    Calls Try.prog 5 #[wv a, wv b] w fun e w' => e = .returned (.bool true) ∧ Below w.heap.size w w' := by
  have q1 := weql a a ha ha
  rw [beq_self_eq_true] at q1
  have e1 := back_over a b ha hb
  have E2 := Lib.hid (back_eq a b ha hb)
  go_enter Try.func5, Try.ntmps5
  go_wp2_with fail
  refine (wadd a b _ ha hb).mono ?_
  rintro e w1 ⟨rfl, hb1⟩
  have hz1 := hb1.size
  obtain ⟨hc1, hf1⟩ := bcell hb1
  simp at hz1
  have hz1a : w.heap.size + 1 < w1.heap.size := by omega
  have hz1b : w.heap.size < w1.heap.size := by omega
  go_wp2_with fail
  refine (wsub _ b _ (add_lt a b) hb).mono ?_
  rintro e w2 ⟨rfl, hb2⟩
  rw [E2.out]
  have hz2 := hb2.size
  obtain ⟨hc2, hf2⟩ := bcell hb2
  simp at hz2
  have hz2a : w.heap.size + 1 < w2.heap.size := by omega
  have hz2b : w.heap.size < w2.heap.size := by omega
  have hz2c : w1.heap.size < w2.heap.size := by omega
  go_wp2_with (go_at_call 17; refine (awake_any _).mono ?_; rintro e w3 ⟨rfl, hb3⟩)
  go_ret
  have B1 := (((Below.refl w.heap.size w).alloc (Nat.le_refl _) (.cells (wcs a) 24)).alloc (by simp) (.cells (wcs b) 24)).trans (hb1.mono (by simp; omega))
  have B2 := (B1.alloc B1.size (.cells (wcs ((a + b) % W256)) 24)).trans (hb2.mono (by simp; omega))
  exact ⟨rfl, (B2.alloc B2.size _).trans (hb3.mono (by simp; omega))⟩
end Go.Proofs.Ytkejhoadjflecaa
