import Derived.Test.YtppcccocnmhbgaaFl15
import Derived.Test.YtppcccocnmhbgaaFl7
import Derived.Test.YtppcccocnmhbgaaFl18
import Derived.Test.YtppcccocnmhbgaaFl23
section
/- The filter of nothing (awake). -/
namespace Go.Proofs.Ytppcccocnmhbgaa
open Go Go.RowKit
set_option linter.unusedSimpArgs false
set_option linter.unusedVariables false
set_option maxRecDepth 100000

set_option maxHeartbeats 1600000 in
/-- the filter of nothing -/
theorem build_nil (n : Nat) (w : World) : Calls Try.prog 11 #[hv n, .slice none 0 0] w fun e w' => ∃ p c o, e = .returned (.tuple #[.slice p 1 c, .int .i64 0]) ∧ Row w' 5 (.slice p 1 c) [0] o ∧ (∀ g, o = some g → w.heap.size ≤ g) ∧ Below w.heap.size w w' := by
  obtain ⟨i0, hi, hz0, hz1, hz2⟩ := info_parts u8info'
  have B0 := Blk.new w (hcs n) 23
  have K0 := (Below.refl w.heap.size w).alloc (Nat.le_refl _) (.cells (hcs n) 23)
  have PO := Lib.hid (once_nil (w.alloc (.cells (hcs n) 23)))
  have PS := Lib.hid (fun w => sort0 w)
  have PN := Lib.hid (fun w => rice_new w)
  have PE : Hid (∀ w : World, Calls Try.prog 36 #[.int .u64 0] w fun e w' => e = .returned (.slice (some ⟨w.heap.size, 0, none⟩) 1 1) ∧ w' = w.alloc (.cells #[.int .u8 0] 5)) := fun w => enc_small 0 (by decide) w
  have HB := Lib.hid (And.intro B0 K0)
  clear B0 K0
  go_enter Try.func11, Try.ntmps11
  go_upto_region 3 with fail
  generalize w.alloc (.cells (hcs n) 23) = w0 at *
  generalize hgw : w.heap.size = hb at *
  go_wp2_with fail
  refine PO.out.mono ?_
  rintro e w1 ⟨rfl, hb1⟩
  have B1 := HB.out.1.beyond hb1
  have PU := Lib.hid (under_any n 0 w1)
  have K1 := Lib.hid (HB.out.2.trans (hb1.mono (by rw [← hgw]; exact HB.out.2.size)))
  clear hb1
  go_wp2_with (refine wpl_load rfl 23 (.tmp 2) rfl rfl B1 Try.underlying23 (by rw [hcs_size]; kernel_rfl) ?_)
  refine PU.out.mono ?_
  rintro e w2 ⟨v, rfl, _, hb2⟩
  have K2 := Lib.hid (K1.out.trans (hb2.mono (by rw [← hgw]; exact K1.out.size)))
  clear hb2 B1
  go_wp2
  go_loopg [8, 26] 1 (fun gh l i wx => l = .slice none 0 0 ∧ i = .int .i64 0 ∧ wx = w2)
  case atStart => exact ⟨rfl, rfl, rfl⟩
  case round =>
    obtain ⟨rfl, rfl, hwx⟩ := hrel
    obtain rfl : w2 = wr := hwx.symm
    go_wp2_with fail
    refine (PS.out _).mono ?_
    rintro e w3 ⟨rfl, rfl⟩
    go_wp2_with fail
    refine (PN.out _).mono ?_
    rintro e w3 ⟨rfl, bw, hb3⟩
    have PB := Lib.hid (rice_bytes0 _ _ _ (bw.alloc (.cells #[.int .u8 0] 5)))
    have R4 : Row (w3.alloc (.cells #[.int .u8 0] 5)) 5 (.slice (some ⟨w3.heap.size, 0, none⟩) 1 1) [0] (some w3.heap.size) :=
      .inr ⟨w3.heap.size, 1, #[.int .u8 0], rfl, rfl, Blk.new _ _ _, Nat.le_refl _, Nat.le_refl _, (by decide), rfl⟩
    obtain ⟨v5, w5, o5, run5, R5, ho5, k5⟩ := row_appendL (P := Try.prog) 26 26 i0 (.int .u8 0) Try.underlying26 hi hz0 hz1 hz2 rfl R4 (p := none) (c := 0) (ys := []) (Lib.BytesIn.nil _ _ _) (by decide)
    have K4 := K2.out.trans (hb3.mono (by rw [← hgw]; exact K2.out.size))
    have hG3 : hb ≤ w3.heap.size := by rw [← hgw]; exact K4.size
    have H5 := Lib.hid (And.intro R5 (own_step hgw (K4.alloc hG3 (.cells #[.int .u8 0] 5)) (fun g hg => by cases hg; exact hG3) ho5 k5))
    obtain ⟨q5, c5, rfl, _⟩ := R5.form
    clear R4 R5 ho5 k5 K4 hG3
    have K3 := Lib.hid (K2.out.trans (hb3.mono (by rw [← hgw]; exact K2.out.size)))
    clear bw hb3
    go_wp2
    go_loopg [42] 1 (fun gh i wx => i = .int .i64 0 ∧ wx = w3)
    case atStart => exact ⟨rfl, rfl⟩
    case round =>
      obtain ⟨rfl, hwx⟩ := hrel
      obtain rfl : w3 = wr := hwx.symm
      go_wp2_with fail
      refine (PE.out _).mono ?_
      rintro e w4 ⟨rfl, rfl⟩
      go_wp2_with fail
      refine PB.out.mono ?_
      rintro e w4 ⟨rfl, hw4⟩
      obtain rfl : w3.alloc (.cells #[.int .u8 0] 5) = w4 := hw4
      go_wp2_with (at_builtin; refine wpl_append rfl _ _ 26 rfl rfl rfl run5 ?_)
      go_ret2
      subst hgw
      exact ⟨q5, c5, o5, rfl, H5.out⟩
end Go.Proofs.Ytppcccocnmhbgaa
end

section
/- The law FilterValues. -/
namespace Go.Proofs.Ytppcccocnmhbgaa
open Go Go.RowKit
set_option linter.unusedSimpArgs false
set_option linter.unusedVariables false
set_option maxRecDepth 100000

/-- the filter of nothing is written -/
theorem awake_true (w : World) : Calls Try.prog 15 #[] w fun e w' => e = .returned (.bool true) ∧ Below w.heap.size w w' := by
  have PB := Lib.hid (build_nil 0 w)
  have hz : hv 0 = .agg #[.int .u8 0, .int .u8 0, .int .u8 0, .int .u8 0, .int .u8 0, .int .u8 0, .int .u8 0, .int .u8 0, .int .u8 0, .int .u8 0, .int .u8 0, .int .u8 0, .int .u8 0, .int .u8 0, .int .u8 0, .int .u8 0, .int .u8 0, .int .u8 0, .int .u8 0, .int .u8 0, .int .u8 0, .int .u8 0, .int .u8 0, .int .u8 0, .int .u8 0, .int .u8 0, .int .u8 0, .int .u8 0, .int .u8 0, .int .u8 0, .int .u8 0, .int .u8 0] := by unfold hv; rw [hcs_zero]; rfl
  go_enter Try.func15, Try.ntmps15
  rw [hz] at PB
  go_wp2_with fail
  refine PB.out.mono ?_
  rintro e w1 ⟨p, c, o, rfl, R, ho, hb⟩
  obtain ⟨_, _, e1, hy, _⟩ := R.form
  cases e1
  have bn := Blk.new w1 #[.int .u8 0] 5
  have PE := Lib.hid (Try.bytes_Equal_all p (some ⟨w1.heap.size, 0, none⟩) 1 c 1 1 [0] [0] (w1.alloc (.cells #[.int .u8 0] 5)) rfl rfl (bytes_keep hy ((Keep.refl (fun _ => False) w1).alloc _) (fun _ _ _ h => h)) (Lib.BytesIn.of_cells (xs := [0]) fun i hi => by
    obtain rfl : i = 0 := by simpa using hi
    rw [Addr.add_lit, bn.cell]; rfl))
  have HB := Lib.hid hb
  clear R ho hb hy bn hz
  go_wp2_with fail
  refine PE.out.mono ?_
  rintro e w2 ⟨rfl, hw⟩
  obtain rfl : w1.alloc (.cells #[.int .u8 0] 5) = w2 := hw.symm
  rw [beq_self_eq_true]
  go_wp2
  go_ret
  exact ⟨rfl, HB.out.alloc HB.out.size _⟩
set_option maxHeartbeats 1600000 in
theorem u64equal (q q2 : Option Addr) (c c2 : Nat) (l : List Nat) (w : World) (h1 : U64In w q l) (h2 : U64In w q2 l) (hn : l.length ≤ 1000000) :
    Calls Try.prog 28 #[.slice q l.length c, .slice q2 l.length c2] w fun e w' => e = .returned (.bool true) ∧ Below w.heap.size w w' := by
  have H1 := Lib.hid h1
  have H2 := Lib.hid h2
  obtain ⟨n, hn'⟩ : ∃ n, n = l.length := ⟨_, rfl⟩
  rw [← hn'] at hn ⊢
  have HN := Lib.hid hn'
  clear h1 h2 hn'
  go_enter Try.func28, Try.ntmps28
  go_wp2
  go_loopg [13] n (fun gh i wx => ∃ k : Nat, k ≤ n ∧ i = .int .i64 (k : Int) ∧ gh = n - k ∧ Hid (Below w.heap.size w wx))
  case atStart => exact ⟨0, Nat.zero_le _, rfl, rfl, Below.refl _ _⟩
  case round =>
    obtain ⟨k, hk, rfl, hg, HM⟩ := hrel
    have HG := Lib.hid hg
    clear hg
    by_cases hlt : k < n
    · obtain ⟨g, rfl, r1⟩ := (H1.out.below HM.out) k (by rw [← HN.out]; exact hlt)
      obtain ⟨g2, rfl, r2⟩ := (H2.out.below HM.out) k (by rw [← HN.out]; exact hlt)
      generalize l.getD k 0 = x at *
      have hne : ((x : Int) != (x : Int)) = false := bne_self_eq_false _
      go_upto_region 6 with fail
      refine wp_region_held_drew (S := fun w' => w' = wr.drew) (by kernel_rfl) rfl (fun hS => ?_)
      refine wpAnyH_take (i := 0) (oi := ⟨_, _, _, _, _, _⟩) (v := ?_) rfl (by kernel_rfl) (by kernel_rfl) (by kernel_rfl) (fun _ _ _ h => h) (Or.inl ⟨by rfl, ?_⟩) hS ?_
      rotate_left
      · intro w0 hs; subst hs; go_simp; try (with_reducible rfl)
      try simp only [Act.put, List.setIfInBounds_toArray, List.set_cons_zero, List.set_cons_succ]
      refine wpAnyH_take (i := 1) (oi := ⟨_, _, _, _, _, _⟩) (v := ?_) rfl (by kernel_rfl) (by kernel_rfl) (by kernel_rfl) (fun _ _ _ h => h) (Or.inl ⟨by rfl, ?_⟩) hS ?_
      rotate_left
      · intro w0 hs; subst hs; go_simp; try (with_reducible rfl)
      try simp only [Act.put, List.setIfInBounds_toArray, List.set_cons_zero, List.set_cons_succ]
      refine wpAnyH_take (i := 2) (oi := ⟨_, _, _, _, _, _⟩) (v := ?_) rfl (by kernel_rfl) (by kernel_rfl) (by kernel_rfl) (fun _ _ _ h => h) (Or.inl ⟨by rfl, ?_⟩) hS ?_
      rotate_left
      · intro w0 hs; subst hs; go_simp; try (with_reducible rfl)
      try simp only [Act.put, List.setIfInBounds_toArray, List.set_cons_zero, List.set_cons_succ]
      refine wpAnyH_take (i := 3) (oi := ⟨_, _, _, _, _, _⟩) (v := ?_) rfl (by kernel_rfl) (by kernel_rfl) (by kernel_rfl) (fun _ _ _ h => h) (Or.inl ⟨by rfl, ?_⟩) hS ?_
      rotate_left
      · intro w0 hs; subst hs; go_simp; try (with_reducible rfl)
      try simp only [Act.put, List.setIfInBounds_toArray, List.set_cons_zero, List.set_cons_succ]
      refine wpAnyH_take (i := 4) (oi := ⟨_, _, _, _, _, _⟩) (v := ?_) rfl (by kernel_rfl) (by kernel_rfl) (by kernel_rfl) (fun _ _ _ h => h) (Or.inl ⟨by rfl, ?_⟩) hS ?_
      rotate_left
      · intro w0 hs; subst hs; go_simp; try (with_reducible rfl)
      try simp only [Act.put, List.setIfInBounds_toArray, List.set_cons_zero, List.set_cons_succ]
      refine wpAnyH_take (i := 5) (oi := ⟨_, _, _, _, _, _⟩) (v := ?_) rfl (by kernel_rfl) (by kernel_rfl) (by kernel_rfl) (fun _ _ _ h => h) (Or.inl ⟨by rfl, ?_⟩) hS ?_
      rotate_left
      · intro w0 hs; subst hs; go_simp; try (with_reducible rfl)
      try simp only [Act.put, List.setIfInBounds_toArray, List.set_cons_zero, List.set_cons_succ]
      refine wpAnyH_take (i := 6) (oi := ⟨_, _, _, _, _, _⟩) (v := ?_) rfl (by kernel_rfl) (by kernel_rfl) (by kernel_rfl) (fun _ _ _ h => h) (Or.inl ⟨by rfl, ?_⟩) hS ?_
      rotate_left
      · intro w0 hs; subst hs; go_simp; try (with_reducible rfl)
      try simp only [Act.put, List.setIfInBounds_toArray, List.set_cons_zero, List.set_cons_succ]
      refine wpAnyH_take (i := 7) (oi := ⟨_, _, _, _, _, _⟩) (v := ?_) rfl (by kernel_rfl) (by kernel_rfl) (by kernel_rfl) (fun _ _ _ h => h) (Or.inl ⟨by rfl, ?_⟩) hS ?_
      rotate_left
      · intro w0 hs; subst hs; go_simp; try (with_reducible rfl)
      try simp only [Act.put, List.setIfInBounds_toArray, List.set_cons_zero, List.set_cons_succ]
      refine wpAnyH_take (i := 8) (oi := ⟨_, _, _, _, _, _⟩) (v := ?_) rfl (by kernel_rfl) (by kernel_rfl) (by kernel_rfl) (fun _ _ _ h => h) (Or.inl ⟨by rfl, ?_⟩) hS ?_
      rotate_left
      · intro w0 hs; subst hs; go_simp; try (with_reducible rfl)
      try simp only [Act.put, List.setIfInBounds_toArray, List.set_cons_zero, List.set_cons_succ]
      refine wpAnyH_done (by kernel_rfl) ?_ _
      clear hS
      go_wp2
      go_roundg (n - (k + 1))
      case measure => rw [HG.out]; omega
      case rel => exact ⟨k + 1, hlt, rfl, rfl, HM.out.drew⟩
    · obtain rfl : k = n := by omega
      go_wp2
      go_ret
      exact ⟨rfl, HM.out⟩
set_option maxHeartbeats 3200000 in
theorem values_walk (a0 : Option Addr) (c0 : Nat) (ys : List Int) (w : World) (hy : Lib.BytesIn w a0 ys.length ys) (hn : ys.length ≤ 140737488351232) (hc : ys.length ≤ c0) (hr : ∀ y ∈ ys, 0 ≤ y ∧ y ≤ 255) (hz : a0 = none → c0 = 0) (hcm : c0 ≤ 140737488351232) :
    Calls Try.prog 7 #[.slice a0 ys.length c0] w fun e w' => e = .returned (.bool true) ∧ Below w.heap.size w w' := by
  have PC := Lib.hid (bclone a0 c0 ys w hy (by omega) hz hc)
  have HY := Lib.hid (And.intro hy (And.intro hc hr))
  clear hy hc hr hz
  go_enter Try.func7, Try.ntmps7
  go_wp2_with fail
  refine PC.out.mono ?_
  rintro e w1 ⟨p1, c1, o1, rfl, R1, ho1, hb1⟩
  obtain ⟨_, _, e1, hy1, hle1, hcm1, _⟩ := R1.form
  cases e1
  have PV := Lib.hid (pvalues ys p1 c1 w1 hy1 HY.out.2.2 hle1 (by unfold maxLen at hcm1; omega) (by omega))
  have HB1 := Lib.hid (And.intro hb1 hy1)
  clear R1 ho1 hb1 hy1 hle1 hcm1
  go_wp2_with fail
  refine PV.out.mono ?_
  rintro e w2 ⟨hb2, hcase⟩
  have hb12 := HB1.out.1.trans (hb2.mono HB1.out.1.size)
  have PR := Lib.hid (rvalues ys a0 c0 w2 (bytes_keep HY.out.1 (Keep.of_below (X := fun _ => False) hb12) (fun _ _ _ h => h)) HY.out.2.2 HY.out.2.1 (by omega) (by omega))
  have HB2 := Lib.hid (And.intro hb2 hb12)
  clear hb2 hb12
  have PEQ : ∀ w3 : World, Below w2.heap.size w2 w3 → Calls Try.prog 13 #[.slice p1 ys.length c1, .slice a0 ys.length c0] w3 fun e w' => e = .returned (.bool true) ∧ w' = w3 := fun w3 hb3 => by
    have k13 : Below w1.heap.size w1 w3 := HB2.out.1.trans (hb3.mono HB2.out.1.size)
    have k03 : Below w.heap.size w w3 := HB2.out.2.trans (hb3.mono HB2.out.2.size)
    have := Try.bytes_Equal_all p1 a0 ys.length c1 ys.length c0 ys ys w3 rfl rfl (bytes_keep HB1.out.2 (Keep.of_below (X := fun _ => False) k13) (fun _ _ _ h => h)) (bytes_keep HY.out.1 (Keep.of_below (X := fun _ => False) k03) (fun _ _ _ h => h))
    rw [beq_self_eq_true] at this
    exact this
  have PEQ := Lib.hid PEQ
  rcases hcase with ⟨hv, rfl⟩ | ⟨l, v, o, hv, rfl, hrow, ho⟩
  · go_wp2_with fail
    refine PR.out.mono ?_
    rintro e w3 ⟨hb3, hcase2⟩
    rcases hcase2 with ⟨_, rfl⟩ | ⟨l2, v2, o2, hv2, _⟩
    · have PU := Lib.hid (u64equal none none 0 0 [] w3 (fun i hi => by simp at hi) (fun i hi => by simp at hi) (by decide))
      have HB3 := Lib.hid hb3
      clear hb3
      go_wp2_with fail
      refine PU.out.mono ?_
      rintro e w4 ⟨rfl, hb4⟩
      have k4 := HB3.out.trans (hb4.mono HB3.out.size)
      have PE4 := Lib.hid (PEQ.out w4 k4)
      have HB4 := Lib.hid (HB2.out.2.trans (k4.mono HB2.out.2.size))
      clear k4 hb4
      go_wp2_with fail
      refine PE4.out.mono ?_
      rintro e w5 ⟨rfl, rfl⟩
      go_wp2_with fail
      refine (awake_true _).mono ?_
      rintro e w6 ⟨rfl, hb6⟩
      have HB6 := Lib.hid (HB4.out.trans (hb6.mono HB4.out.size))
      clear hb6
      go_wp2
      go_ret
      exact ⟨rfl, HB6.out⟩
    · rw [hv] at hv2; cases hv2
  · obtain ⟨q3, c3, rfl, hu⟩ := U64In.of_row hrow
    have hll := valuesS_len hv
    clear hrow ho
    go_wp2_with fail
    refine PR.out.mono ?_
    rintro e w3 ⟨hb3, hcase2⟩
    rcases hcase2 with ⟨hv2, _⟩ | ⟨l2, v2, o2, hv2, rfl, hrow2, _⟩
    · rw [hv] at hv2; cases hv2
    · obtain rfl : l = l2 := by rw [hv] at hv2; exact Option.some.inj hv2
      obtain ⟨q4, c4, rfl, hu2⟩ := U64In.of_row hrow2
      have PU := Lib.hid (u64equal q3 q4 c3 c4 l w3 (hu.below hb3) hu2 (by omega))
      have HB3 := Lib.hid hb3
      clear hb3 hu hu2 hrow2 hv2 hv
      go_wp2_with fail
      refine PU.out.mono ?_
      rintro e w4 ⟨rfl, hb4⟩
      have k4 := HB3.out.trans (hb4.mono HB3.out.size)
      have PE4 := Lib.hid (PEQ.out w4 k4)
      have HB4 := Lib.hid (HB2.out.2.trans (k4.mono HB2.out.2.size))
      clear k4 hb4
      go_wp2_with fail
      refine PE4.out.mono ?_
      rintro e w5 ⟨rfl, rfl⟩
      go_wp2_with fail
      refine (awake_true _).mono ?_
      rintro e w6 ⟨rfl, hb6⟩
      have HB6 := Lib.hid (HB4.out.trans (hb6.mono HB4.out.size))
      clear hb6
      go_wp2
      go_ret
      exact ⟨rfl, HB6.out⟩
end Go.Proofs.Ytppcccocnmhbgaa
end

section
/- The law FilterHolds, walked. -/
namespace Go.Proofs.Ytppcccocnmhbgaa
open Go Go.RowKit
set_option linter.unusedSimpArgs false
set_option linter.unusedVariables false
set_option maxRecDepth 100000

/-- one row in a slice of its own -/
theorem one_rowF {w : World} {A : Option Addr} {C : Nat} {Z : List Int} (h : RowOf w (.slice A Z.length C) A C Z) : RowsIn (w.alloc (.cells #[.slice A Z.length C] 26)) (some ⟨w.heap.size, 0, none⟩) 1 (fun _ => A) (fun _ => C) (fun _ => Z) := fun i hi => by
  obtain rfl : i = 0 := by omega
  exact ⟨w.heap.size, 0, rfl, (Blk.new w #[.slice A Z.length C] 26).cell 0, h.below ((Below.refl _ w).alloc (Nat.le_refl _) _)⟩
theorem matchE_oneF {n : Nat} {bs : List Int} {l : List Nat} (h : valuesS bs = some l) (Z : List Int) : matchE n bs 1 (fun _ => Z) = .returned (.tuple #[.bool (matchB n l Z), .int .i64 0]) := by
  rw [matchE_some h]
  have : (List.range 1).any (fun _ => matchB n l Z) = matchB n l Z := by simp [List.range_succ]
  rw [this]
/-- Build's answer, in one form -/
theorem pbuild1 (n : Nat) (a0 : Option Addr) (len cap : Nat) (A : Nat → Option Addr) (C : Nat → Nat) (Z : Nat → List Int) (w : World) (hR : RowsIn w a0 len A C Z) (hl : len ≤ 20000) :
    Calls Try.prog 11 #[hv n, .slice a0 len cap] w fun e w' => ∃ p c o, e = .returned (.tuple #[.slice p (buildS n (unlikeN Z len)).length c, .int .i64 0]) ∧ Below w.heap.size w w' ∧
      Row w' 5 (.slice p (buildS n (unlikeN Z len)).length c) (buildS n (unlikeN Z len)) o := by
  refine (pbuild n a0 len cap A C Z w hR (by omega)).mono ?_
  rintro e w' ⟨hb, h1, h2⟩
  obtain ⟨p, c, o, e1, hr, _⟩ := h2 hl
  exact ⟨p, c, o, e1, hb, hr⟩
theorem values_build' {n : Nat} {Z : Nat → List Int} {L : Nat} (hL : L ≤ 20000) : valuesS (buildS n (unlikeN Z L)) = some (sortN ((unlikeN Z L).map (itemV n (unlikeN Z L).length))) :=
  values_build (Nat.le_trans (unlikeN_len Z L) hL)
theorem holds_one {n : Nat} {Z : Nat → List Int} {L i : Nat} (hi : i < L) : matchB n (sortN ((unlikeN Z L).map (itemV n (unlikeN Z L).length))) (Z i) = decide (0 < (Z i).length) := by
  by_cases h0 : Z i = []
  · rw [h0]; unfold matchB; simp
  · rw [match_build (mem_unlikeN hi h0) h0]
    exact (decide_eq_true (List.length_pos_iff.2 h0)).symm
set_option maxHeartbeats 6400000 in
theorem holds_walk (n : Nat) (a0 : Option Addr) (len cap : Nat) (A : Nat → Option Addr) (C : Nat → Nat) (Z : Nat → List Int) (at' : Int) (w : World)
    (hl : len ≤ 9223372036854775807) (hlc : len ≤ cap) (hcap : cap ≤ 9223372036854775807) (hR : RowsIn w a0 len A C Z) :
    Calls Try.prog 9 #[hv n, .slice a0 len cap, .int .i64 at'] w fun e w' => e = .returned (.bool true) ∧ Below w.heap.size w w' := by
  have B0 := Blk.new w (hcs n) 23
  have K0 := (Below.refl w.heap.size w).alloc (Nat.le_refl _) (.cells (hcs n) 23)
  obtain ⟨L, hL⟩ : ∃ L, L = min len 100 := ⟨_, rfl⟩
  have hLl : L ≤ len := by omega
  have hmin : min (len : Int) 100 = (L : Int) := by omega
  have hLi : (L : Int) ≤ (cap : Int) := by omega
  have hLn : L ≤ cap := by omega
  have hL1 : L ≤ 100 := by omega
  have hRL := Lib.hid (hR.less hLl)
  have PB := Lib.hid (fun (wx : World) (hb : Below w.heap.size w wx) => pbuild1 n a0 L cap A C Z wx (hRL.out.below hb) (by omega))
  have PA := Lib.hid (fun (wx : World) => awake_true wx)
  have hbl := buildS_len (n := n) (U := unlikeN Z L) (Nat.le_trans (unlikeN_len Z L) (by omega))
  have hbr := buildS_range n (unlikeN Z L)
  have hvs := values_build' (n := n) (Z := Z) (L := L) (by omega)
  have hho := fun i (hi : i < L) => holds_one (n := n) (Z := Z) hi
  have hnil : L = 0 → matchB n (sortN ((unlikeN Z L).map (itemV n (unlikeN Z L).length))) [1] = false := fun h => by
    subst h; simp [matchB, unlikeN, sortN]
  obtain ⟨bs, hbs⟩ : ∃ bs, bs = buildS n (unlikeN Z L) := ⟨_, rfl⟩
  rw [← hbs] at PB hbl hbr hvs
  generalize sortN ((unlikeN Z L).map (itemV n (unlikeN Z L).length)) = vs at *
  have HV := Lib.hid (And.intro hbr (And.intro hvs (And.intro hho (And.intro hnil hbl))))
  have HB := Lib.hid (And.intro B0 K0)
  clear B0 K0 hR hL hLl hbr hvs hho hnil hbs hbl
  go_enter Try.func9, Try.ntmps9
  go_upto_region 2 with fail
  have bx := HB.out.1
  generalize w.alloc (.cells (hcs n) 23) = w0 at *
  generalize hgw : w.heap.size = hb at *
  go_wp2_with (refine wpl_load rfl 23 (.tmp 3) rfl rfl bx Try.underlying23 (by rw [hcs_size]; kernel_rfl) ?_)
  refine (PB.out _ HB.out.2).mono ?_
  rintro e w1 ⟨p, c, o, rfl, hb1, hrow⟩
  have b1 := bx.beyond hb1
  have K1 := Lib.hid (HB.out.2.trans (hb1.mono (by rw [← hgw]; exact HB.out.2.size)))
  have hg1 : hb ≤ w1.heap.size := by rw [← hgw]; exact K1.out.size
  obtain ⟨_, _, e0, hy, hcp, hcm, _⟩ := hrow.form
  cases e0
  have hcm2 : c ≤ 9223372036854775807 := hcm
  have PM := Lib.hid (fun (a1 : Option Addr) (len1 cap1 : Nat) A1 C1 Z1 (wx : World) (hb : Below w1.heap.size w1 wx) hR1 hl1 => pmatch n bs p c a1 len1 cap1 A1 C1 Z1 wx (bytes_keep hy (Keep.of_below (X := fun _ => False) hb) (fun _ _ _ h => h)) HV.out.1 hcp hcm2 (by have := HV.out.2.2.2.2; omega) hR1 hl1)
  have HB1 := Lib.hid b1
  clear hb1 hrow hy hcm bx
  generalize hbn : bs.length = bn at *
  by_cases h0 : L = 0
  · have hd0 : ((L : Int) == 0) = true := by rw [h0]; rfl
    have HZ : Hid (RowOf (w1.alloc (.cells #[.int .u8 1] 5)) (.slice (some ⟨w1.heap.size, 0, none⟩) 1 1) (some ⟨w1.heap.size, 0, none⟩) 1 [1]) := Lib.hid ⟨rfl, (Lib.BytesIn.of_cells fun i hi => by
      match i, hi with
      | 0, _ => rw [Addr.add_lit, (Blk.new w1 #[.int .u8 1] 5).cell]; rfl
      | j + 1, hj => simp at hj), (by decide), (by decide), (by decide), (fun h => by cases h), (fun y hy => by
        have : y = 1 := by simpa using hy
        omega), (fun q hq _ => by cases hq; simp)⟩
    have hm := HV.out.2.2.2.1 h0
    have ka := (Below.refl w1.heap.size w1).alloc (Nat.le_refl _) (.cells #[.int .u8 1] 5)
    have kb := ka.alloc ka.size (.cells #[.slice (some ⟨w1.heap.size, 0, none⟩) 1 1] 26)
    have hs1 : (w1.alloc (.cells #[.int .u8 1] 5)).heap.size = w1.heap.size + 1 := by simp
    have PM1 : Calls Try.prog 29 #[hv n, .slice p bn c, .slice (some ⟨w1.heap.size + 1, 0, none⟩) 1 1] ((w1.alloc (.cells #[.int .u8 1] 5)).alloc (.cells #[.slice (some ⟨w1.heap.size, 0, none⟩) 1 1] 26)) fun e w' => e = .returned (.tuple #[.bool false, .int .i64 0]) ∧ Below ((w1.alloc (.cells #[.int .u8 1] 5)).alloc (.cells #[.slice (some ⟨w1.heap.size, 0, none⟩) 1 1] 26)).heap.size ((w1.alloc (.cells #[.int .u8 1] 5)).alloc (.cells #[.slice (some ⟨w1.heap.size, 0, none⟩) 1 1] 26)) w' := by
      have h := PM.out _ 1 1 _ _ _ _ kb (one_rowF (Z := [1]) HZ.out) (by decide)
      rw [matchE_oneF HV.out.2.1, hm, hs1] at h
      exact h
    have PM1 := Lib.hid PM1
    have KB := Lib.hid (K1.out.trans (kb.mono hg1))
    have hgb := Nat.le_trans hg1 kb.size
    have b2 := b1
    clear ka kb hm hs1
    go_wp2_with (refine wpl_load rfl 23 (.tmp 3) rfl rfl b2 Try.underlying23 (by rw [hcs_size]; kernel_rfl) ?_)
    refine PM1.out.mono ?_
    rintro e w2 ⟨rfl, hb2⟩
    have K2 := Lib.hid (KB.out.trans (hb2.mono hgb))
    clear hb2
    go_wp2_with fail
    refine (PA.out _).mono ?_
    rintro e w3 ⟨rfl, hb3⟩
    have K3 := Lib.hid (K2.out.trans (hb3.mono (by rw [← hgw]; exact K2.out.size)))
    clear hb3
    go_wp2
    exact bodyPost_ret (results_tmp Try.results9 _ _ _) rfl ⟨rfl, by first | exact K3.out | (rw [hgw]; exact K3.out)⟩
  · have hd0 : ((L : Int) == 0) = false := by simpa using h0
    obtain ⟨i, hi, hix⟩ : ∃ i : Nat, i < L ∧ RowKit.wrap64 ((IntKind.u64.wrap at').tmod (L : Int)) = (i : Int) := by
      have h1 : 0 ≤ IntKind.u64.wrap at' := by rw [IntKind.wrap_u64]; exact Int.emod_nonneg _ (by decide)
      have h2 := Int.emod_nonneg (IntKind.u64.wrap at') (b := (L : Int)) (by omega)
      have h3 := Int.emod_lt_of_pos (IntKind.u64.wrap at') (b := (L : Int)) (by omega)
      refine ⟨(IntKind.u64.wrap at' % (L : Int)).toNat, by omega, ?_⟩
      rw [Int.tmod_eq_emod_of_nonneg h1, IntWalk.wrap64_in _ (by omega)]
      omega
    obtain ⟨b, off, rfl, hc, hrow⟩ := (hRL.out.below (K1.out.mono (by rw [hgw]; exact Nat.le_refl _))) i hi
    have hm := HV.out.2.2.1 i hi
    obtain ⟨zl, hzl⟩ : ∃ zl, zl = (Z i).length := ⟨_, rfl⟩
    have ka := (Below.refl w1.heap.size w1).alloc (Nat.le_refl _) (.cells #[.slice (A i) (Z i).length (C i)] 26)
    have PM1 := PM.out _ 1 1 _ _ _ _ ka (one_rowF hrow) (by decide)
    rw [matchE_oneF HV.out.2.1, hm] at PM1
    rw [← hzl] at PM1 hc ka
    have PM1 := Lib.hid PM1
    have KB := Lib.hid (K1.out.trans (ka.mono hg1))
    have hgb := Nat.le_trans hg1 ka.size
    have b2 := HB1.out.beyond ka
    have hbz : decide ((0 : Int) < (zl : Int)) = decide (0 < zl) := by simp
    have hbe : (decide (0 < zl) == decide (0 < zl)) = true := beq_self_eq_true _
    clear ka hm hrow hzl
    go_wp2_with (refine wpl_load rfl 23 (.tmp 3) rfl rfl b1 Try.underlying23 (by rw [hcs_size]; kernel_rfl) ?_)
    refine PM1.out.mono ?_
    rintro e w2 ⟨rfl, hb2⟩
    have K2 := Lib.hid (KB.out.trans (hb2.mono hgb))
    clear hb2 b2
    go_wp2_with fail
    refine (PA.out _).mono ?_
    rintro e w3 ⟨rfl, hb3⟩
    have K3 := Lib.hid (K2.out.trans (hb3.mono (by rw [← hgw]; exact K2.out.size)))
    clear hb3
    go_wp2
    exact bodyPost_ret (results_tmp Try.results9 _ _ _) rfl ⟨rfl, by first | exact K3.out | (rw [hgw]; exact K3.out)⟩
end Go.Proofs.Ytppcccocnmhbgaa
end
