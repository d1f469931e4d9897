/- cmp.Less, isNaN, BinarySearch at uint64. -/
import Derived.Test.YtppcccocnmhbgaaItem
import Derived.Test.YtppcccocnmhbgaaFilterValues
namespace Go.Proofs.Ytppcccocnmhbgaa
open Go Go.RowKit
set_option linter.unusedSimpArgs false
set_option linter.unusedVariables false
set_option maxRecDepth 100000

theorem cnan (a : Nat) (w : World) : Calls Try.prog 85 #[.int .u64 (a : Int)] w fun e w' => e = .returned (.bool false) ∧ w = w' := by
  have h : ((a : Int) != (a : Int)) = false := bne_self_eq_false _
  go_enter Try.func85, Try.ntmps85
  go_wp2
  go_ret
  first | exact ⟨rfl, rfl⟩ | (refine ⟨?_, rfl⟩; rw [h])
theorem snan (a : Nat) (w : World) : Calls Try.prog 88 #[.int .u64 (a : Int)] w fun e w' => e = .returned (.bool false) ∧ w = w' := by
  have h : ((a : Int) != (a : Int)) = false := bne_self_eq_false _
  go_enter Try.func88, Try.ntmps88
  go_wp2
  go_ret
  first | exact ⟨rfl, rfl⟩ | (refine ⟨?_, rfl⟩; rw [h])
theorem cless (a b : Nat) (w : World) : Calls Try.prog 53 #[.int .u64 (a : Int), .int .u64 (b : Int)] w fun e w' => e = .returned (.bool (decide (a < b))) ∧ w = w' := by
  have P := Lib.hid (cnan a w)
  have hd : decide ((a : Int) < (b : Int)) = decide (a < b) := by simp
  go_enter Try.func53, Try.ntmps53
  go_wp2_with fail
  refine P.out.mono ?_
  rintro e w1 ⟨rfl, rfl⟩
  go_wp2
  go_ret
  first | exact ⟨rfl, rfl⟩ | (refine ⟨?_, rfl⟩; rw [hd])
/-- the numbers do not fall -/
def SortedN (l : List Nat) : Prop := ∀ i j, i ≤ j → j < l.length → l.getD i 0 ≤ l.getD j 0
theorem mem_of_bounds (l : List Nat) (x k : Nat) (h1 : ∀ i, i < k → l.getD i 0 < x) (h2 : ∀ i, k ≤ i → i < l.length → x ≤ l.getD i 0) (hs : SortedN l) (hk : k ≤ l.length) : x ∈ l ↔ (k < l.length ∧ l.getD k 0 = x) := by
  constructor
  · intro h
    obtain ⟨i, hi, e⟩ := List.mem_iff_getElem.1 h
    have hg : l.getD i 0 = x := by rw [List.getD_eq_getElem?_getD, List.getElem?_eq_getElem hi]; exact e
    rcases Nat.lt_or_ge i k with hik | hik
    · have := h1 i hik; omega
    · have hk' : k < l.length := by omega
      refine ⟨hk', ?_⟩
      have a := hs k i hik hi
      have b := h2 k (Nat.le_refl _) hk'
      omega
  · rintro ⟨hk', e⟩
    rw [List.getD_eq_getElem?_getD, List.getElem?_eq_getElem hk'] at e
    exact List.mem_iff_getElem.2 ⟨k, hk', e⟩
set_option maxHeartbeats 1600000 in
theorem bsearch (l : List Nat) (x : Nat) (q : Option Addr) (c : Nat) (w : World) (hU : U64In w q l) (hs : SortedN l) (hn : l.length ≤ 1000000) :
    Calls Try.prog 61 #[.slice q l.length c, .int .u64 (x : Int)] w fun e w' => (∃ i, e = .returned (.tuple #[.int .i64 i, .bool (decide (x ∈ l))])) ∧ w = w' := by
  have HU := Lib.hid hU
  have HS := Lib.hid hs
  obtain ⟨n, hn'⟩ : ∃ n, n = l.length := ⟨_, rfl⟩
  rw [← hn'] at hn ⊢
  have HN := Lib.hid hn'
  clear hU hs hn'
  obtain ⟨R, hR⟩ : ∃ R, R = decide (x ∈ l) := ⟨_, rfl⟩
  rw [← hR]
  have HR := Lib.hid hR
  clear hR
  have PL := Lib.hid (fun a => cless a x w)
  go_enter Try.func61, Try.ntmps61
  go_wp2
  go_loopg [7, 8] n (fun gh lo hi wx => ∃ a b : Nat, a ≤ b ∧ b ≤ n ∧ lo = .int .i64 (a : Int) ∧ hi = .int .i64 (b : Int) ∧ gh = b - a ∧ Hid ((∀ i, i < a → l.getD i 0 < x) ∧ (∀ i, b ≤ i → i < n → x ≤ l.getD i 0)) ∧ wx = w)
  case atStart => exact ⟨0, n, Nat.zero_le _, Nat.le_refl _, rfl, rfl, rfl, ⟨fun i hi => by omega, fun i h1 h2 => by omega⟩, rfl⟩
  case round =>
    obtain ⟨a, b, hab, hb, rfl, rfl, hg, HB, hwx⟩ := hrel
    obtain rfl : w = wr := hwx.symm
    have HG := Lib.hid hg
    clear hg
    by_cases hlt : a < b
    · obtain ⟨m, hm⟩ : ∃ m, m = (a + b) / 2 := ⟨_, rfl⟩
      obtain ⟨g, rfl, hc⟩ := HU.out m (by rw [← HN.out]; omega)
      have w1 : IntKind.i64.wrap ((a : Int) + (b : Int)) = ((a + b : Nat) : Int) := by rw [IntKind.wrap_i64]; omega
      have w2 : IntKind.u64.wrap (((a + b : Nat) : Int)) = ((a + b : Nat) : Int) := IntWalk.u64_in _ (by omega)
      have w3 : IntKind.i64.wrap (((a + b : Nat) : Int) / 2) = (m : Int) := by rw [IntKind.wrap_i64]; omega
      have w4 : ((a + b : Nat) : Int) / 2 = (m : Int) := by omega
      have w5 : IntKind.i64.wrap (m : Int) = (m : Int) := by rw [IntKind.wrap_i64]; omega
      have PM := Lib.hid (PL.out (l.getD m 0))
      have hmn : m < n := by omega
      have HM := Lib.hid (And.intro hm hmn)
      obtain ⟨y, hy⟩ : ∃ y, y = l.getD m 0 := ⟨_, rfl⟩
      rw [← hy] at hc PM
      have HY := Lib.hid hy
      generalize hab2 : a + b = ab at *
      have HAB := Lib.hid hab2
      clear hm hy hab2
      go_wp2_with fail
      refine PM.out.mono ?_
      rintro e w1 ⟨rfl, rfl⟩
      by_cases hyx : y < x
      · rw [decide_eq_true hyx]
        have HYX := Lib.hid hyx
        clear hyx
        go_wp2
        go_roundg (b - (m + 1))
        case measure => rw [HG.out]; have := HM.out; have := HAB.out; omega
        case rel => exact ⟨m + 1, b, by have := HM.out; have := HAB.out; omega, hb, rfl, rfl, rfl, ⟨fun i hi => by
          have := HS.out i m (by omega) (by rw [← HN.out]; exact hmn)
          have := HYX.out; have := HY.out; omega, HB.out.2⟩, rfl⟩
      · rw [decide_eq_false hyx]
        have HYX := Lib.hid hyx
        clear hyx
        go_wp2
        go_roundg (m - a)
        case measure => rw [HG.out]; have := HM.out; have := HAB.out; omega
        case rel => exact ⟨a, m, by have := HM.out; have := HAB.out; omega, by omega, rfl, rfl, rfl, ⟨HB.out.1, fun i h1 h2 => by
          have := HS.out m i h1 (by rw [← HN.out]; exact h2)
          have := HYX.out; have := HY.out; omega⟩, rfl⟩
    · obtain rfl : a = b := by omega
      have hmem := mem_of_bounds l x a HB.out.1 (by rw [← HN.out]; exact HB.out.2) HS.out (by rw [← HN.out]; exact hb)
      rw [← HN.out] at hmem
      by_cases hlt2 : a < n
      · obtain ⟨g, rfl, hc⟩ := HU.out a (by rw [← HN.out]; exact hlt2)
        generalize l.getD a 0 = y at *
        have PN := Lib.hid (snan y w)
        by_cases hxy : y = x
        · have hd : R = true := by rw [HR.out]; exact decide_eq_true (hmem.2 ⟨hlt2, hxy⟩)
          have HD := Lib.hid hd
          subst hxy
          have hb : ((y : Int) == (y : Int)) = true := by simp
          clear hmem hd HB
          go_wp2_with fail
          go_ret2
          exact ⟨⟨_, by rw [HD.out]; rfl⟩, rfl⟩
        · have hd : R = false := by rw [HR.out]; exact decide_eq_false (fun h => hxy (hmem.1 h).2)
          have HD := Lib.hid hd
          have hb : ((y : Int) == (x : Int)) = false := by rw [beq_eq_false_iff_ne]; omega
          have hb2 : ¬ ((y : Int) = (x : Int)) := by omega
          clear hmem hd HB hxy
          go_wp2_with fail
          refine PN.out.mono ?_
          rintro e w1 ⟨rfl, rfl⟩
          go_wp2_with fail
          go_ret2
          exact ⟨⟨_, by rw [HD.out]; rfl⟩, rfl⟩
      · have hd : R = false := by rw [HR.out]; exact decide_eq_false (fun h => hlt2 (hmem.1 h).1)
        have HD := Lib.hid hd
        clear hmem hd HB
        go_wp2_with fail
        go_ret2
        exact ⟨⟨_, by rw [HD.out]; rfl⟩, rfl⟩
end Go.Proofs.Ytppcccocnmhbgaa
