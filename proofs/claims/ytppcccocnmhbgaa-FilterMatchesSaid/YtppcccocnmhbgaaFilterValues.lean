/- The law FilterValues. -/
import Derived.Test.YtppcccocnmhbgaaValues
import Derived.Test.YtppcccocnmhbgaaBuild1
import Derived.Test.YtppcccocnmhbgaaOpenBytes
namespace Go.Proofs.Ytppcccocnmhbgaa
open Go Go.RowKit
set_option linter.unusedSimpArgs false
set_option linter.unusedVariables false
set_option maxRecDepth 100000

/-- the filter of nothing is written -/
theorem awake_true (w : World) : Calls Try.prog 15 #[] w fun e w' => e = .returned (.bool true) ∧ Below w.heap.size w w' := by
  have PB := Lib.hid (build_nil 0 w)
  have hz : hv 0 = .agg #[.int .u8 0, .int .u8 0, .int .u8 0, .int .u8 0, .int .u8 0, .int .u8 0, .int .u8 0, .int .u8 0, .int .u8 0, .int .u8 0, .int .u8 0, .int .u8 0, .int .u8 0, .int .u8 0, .int .u8 0, .int .u8 0, .int .u8 0, .int .u8 0, .int .u8 0, .int .u8 0, .int .u8 0, .int .u8 0, .int .u8 0, .int .u8 0, .int .u8 0, .int .u8 0, .int .u8 0, .int .u8 0, .int .u8 0, .int .u8 0, .int .u8 0, .int .u8 0] := by unfold hv; rw [hcs_zero]; rfl
  go_enter Try.func15, Try.ntmps15
  rw [hz] at PB
  go_wp2_with fail
  refine PB.out.mono ?_
  rintro e w1 ⟨p, c, o, rfl, R, ho, hb⟩
  obtain ⟨_, _, e1, hy, _⟩ := R.form
  cases e1
  have bn := Blk.new w1 #[.int .u8 0] 5
  have PE := Lib.hid (Try.bytes_Equal_all p (some ⟨w1.heap.size, 0, none⟩) 1 c 1 1 [0] [0] (w1.alloc (.cells #[.int .u8 0] 5)) rfl rfl (bytes_keep hy ((Keep.refl (fun _ => False) w1).alloc _) (fun _ _ _ h => h)) (Lib.BytesIn.of_cells (xs := [0]) fun i hi => by
    obtain rfl : i = 0 := by simpa using hi
    rw [Addr.add_lit, bn.cell]; rfl))
  have HB := Lib.hid hb
  clear R ho hb hy bn hz
  go_wp2_with fail
  refine PE.out.mono ?_
  rintro e w2 ⟨rfl, hw⟩
  obtain rfl : w1.alloc (.cells #[.int .u8 0] 5) = w2 := hw.symm
  rw [beq_self_eq_true]
  go_wp2
  go_ret
  exact ⟨rfl, HB.out.alloc HB.out.size _⟩
/-- bytes.Clone of bytes -/
theorem bclone (q : Option Addr) (c : Nat) (xs : List Int) (w : World) (hy : Lib.BytesIn w q xs.length xs) (hl : xs.length ≤ 140737488355328) (hz : q = none → c = 0) (hc : xs.length ≤ c) :
    Calls Try.prog 26 #[.slice q xs.length c] w fun e w' => ∃ p c' o, e = .returned (.slice p xs.length c') ∧ Row w' 5 (.slice p xs.length c') xs o ∧ (∀ g, o = some g → w.heap.size ≤ g) ∧ Below w.heap.size w w' := by
  cases q with
  | none =>
    obtain rfl := hz rfl
    obtain rfl : xs = [] := List.eq_nil_of_length_eq_zero (by omega)
    exact (Try.bytes_Clone_nil 0 0 w).mono fun e w' ⟨h1, h2⟩ => ⟨none, 0, none, h1, Row.nil _ _, fun g hg => (by cases hg), by rw [h2]; exact Below.refl _ _⟩
  | some a =>
    refine (Try.bytes_Clone_at a xs.length c xs w rfl hl (fun i hi => by
      obtain ⟨b, o2, e1, hc⟩ := hy.at (by omega)
      cases e1
      rw [Addr.add_lit]; exact hc i hi)).mono ?_
    rintro e w1 ⟨v', rfl, hown, hne, hbel⟩
    obtain ⟨o', r1, r2, r3⟩ := Row.of_owns hown
    obtain ⟨q', c', rfl, _⟩ := r1.form
    exact ⟨q', c', o', rfl, r1, fun g hg => (r2 g hg).1, hbel⟩
/-- words in a slice -/
def U64In (w : World) (q : Option Addr) (l : List Nat) : Prop := ∀ i, i < l.length → ∃ g, q = some ⟨g, 0, none⟩ ∧ w.cell? ⟨g, i, none⟩ = some (.int .u64 (l.getD i 0 : Nat))
theorem u64s_get (l : List Nat) (i : Nat) (h : i < l.length) : (u64s l)[i]? = some (.int .u64 (l.getD i 0 : Nat)) := by simp [u64s, List.getD, h]
theorem U64In.of_row {w : World} {v : Value} {l : List Nat} {o : Option Nat} (h : RowV w 52 1 v l.length (u64s l) o) : ∃ q c, v = .slice q l.length c ∧ U64In w q l := by
  obtain ⟨q, c, rfl, _⟩ := h.form
  refine ⟨q, c, rfl, fun i hi => ?_⟩
  obtain ⟨g, cap, _, e, _, _, _, hc, _⟩ := h.mem (by omega)
  injection e with e1
  refine ⟨g, e1, ?_⟩
  rw [hc i (by omega), u64s_get l i hi]
theorem U64In.below {w w' : World} {q : Option Addr} {l : List Nat} (h : U64In w q l) (hb : Below w.heap.size w w') : U64In w' q l := fun i hi => by
  obtain ⟨g, h1, h2⟩ := h i hi
  exact ⟨g, h1, (hb.cell (p := ⟨g, i, none⟩) (cell_lt h2)).trans h2⟩
set_option maxHeartbeats 1600000 in
theorem u64equal (q q2 : Option Addr) (c c2 : Nat) (l : List Nat) (w : World) (h1 : U64In w q l) (h2 : U64In w q2 l) (hn : l.length ≤ 1000000) :
    Calls Try.prog 28 #[.slice q l.length c, .slice q2 l.length c2] w fun e w' => e = .returned (.bool true) ∧ Below w.heap.size w w' := by
  have H1 := Lib.hid h1
  have H2 := Lib.hid h2
  obtain ⟨n, hn'⟩ : ∃ n, n = l.length := ⟨_, rfl⟩
  rw [← hn'] at hn ⊢
  have HN := Lib.hid hn'
  clear h1 h2 hn'
  go_enter Try.func28, Try.ntmps28
  go_wp2
  go_loopg [13] n (fun gh i wx => ∃ k : Nat, k ≤ n ∧ i = .int .i64 (k : Int) ∧ gh = n - k ∧ Hid (Below w.heap.size w wx))
  case atStart => exact ⟨0, Nat.zero_le _, rfl, rfl, Below.refl _ _⟩
  case round =>
    obtain ⟨k, hk, rfl, hg, HM⟩ := hrel
    have HG := Lib.hid hg
    clear hg
    by_cases hlt : k < n
    · obtain ⟨g, rfl, r1⟩ := (H1.out.below HM.out) k (by rw [← HN.out]; exact hlt)
      obtain ⟨g2, rfl, r2⟩ := (H2.out.below HM.out) k (by rw [← HN.out]; exact hlt)
      generalize l.getD k 0 = x at *
      have hne : ((x : Int) != (x : Int)) = false := bne_self_eq_false _
      go_upto_region 6 with fail
      refine wp_region_held_drew (S := fun w' => w' = wr.drew) (by kernel_rfl) rfl (fun hS => ?_)
      refine wpAnyH_take (i := 0) (oi := ⟨_, _, _, _, _, _⟩) (v := ?_) rfl (by kernel_rfl) (by kernel_rfl) (by kernel_rfl) (fun _ _ _ h => h) (Or.inl ⟨by rfl, ?_⟩) hS ?_
      rotate_left
      · intro w0 hs; subst hs; go_simp; try (with_reducible rfl)
      try simp only [Act.put, List.setIfInBounds_toArray, List.set_cons_zero, List.set_cons_succ]
      refine wpAnyH_take (i := 1) (oi := ⟨_, _, _, _, _, _⟩) (v := ?_) rfl (by kernel_rfl) (by kernel_rfl) (by kernel_rfl) (fun _ _ _ h => h) (Or.inl ⟨by rfl, ?_⟩) hS ?_
      rotate_left
      · intro w0 hs; subst hs; go_simp; try (with_reducible rfl)
      try simp only [Act.put, List.setIfInBounds_toArray, List.set_cons_zero, List.set_cons_succ]
      refine wpAnyH_take (i := 2) (oi := ⟨_, _, _, _, _, _⟩) (v := ?_) rfl (by kernel_rfl) (by kernel_rfl) (by kernel_rfl) (fun _ _ _ h => h) (Or.inl ⟨by rfl, ?_⟩) hS ?_
      rotate_left
      · intro w0 hs; subst hs; go_simp; try (with_reducible rfl)
      try simp only [Act.put, List.setIfInBounds_toArray, List.set_cons_zero, List.set_cons_succ]
      refine wpAnyH_take (i := 3) (oi := ⟨_, _, _, _, _, _⟩) (v := ?_) rfl (by kernel_rfl) (by kernel_rfl) (by kernel_rfl) (fun _ _ _ h => h) (Or.inl ⟨by rfl, ?_⟩) hS ?_
      rotate_left
      · intro w0 hs; subst hs; go_simp; try (with_reducible rfl)
      try simp only [Act.put, List.setIfInBounds_toArray, List.set_cons_zero, List.set_cons_succ]
      refine wpAnyH_take (i := 4) (oi := ⟨_, _, _, _, _, _⟩) (v := ?_) rfl (by kernel_rfl) (by kernel_rfl) (by kernel_rfl) (fun _ _ _ h => h) (Or.inl ⟨by rfl, ?_⟩) hS ?_
      rotate_left
      · intro w0 hs; subst hs; go_simp; try (with_reducible rfl)
      try simp only [Act.put, List.setIfInBounds_toArray, List.set_cons_zero, List.set_cons_succ]
      refine wpAnyH_take (i := 5) (oi := ⟨_, _, _, _, _, _⟩) (v := ?_) rfl (by kernel_rfl) (by kernel_rfl) (by kernel_rfl) (fun _ _ _ h => h) (Or.inl ⟨by rfl, ?_⟩) hS ?_
      rotate_left
      · intro w0 hs; subst hs; go_simp; try (with_reducible rfl)
      try simp only [Act.put, List.setIfInBounds_toArray, List.set_cons_zero, List.set_cons_succ]
      refine wpAnyH_take (i := 6) (oi := ⟨_, _, _, _, _, _⟩) (v := ?_) rfl (by kernel_rfl) (by kernel_rfl) (by kernel_rfl) (fun _ _ _ h => h) (Or.inl ⟨by rfl, ?_⟩) hS ?_
      rotate_left
      · intro w0 hs; subst hs; go_simp; try (with_reducible rfl)
      try simp only [Act.put, List.setIfInBounds_toArray, List.set_cons_zero, List.set_cons_succ]
      refine wpAnyH_take (i := 7) (oi := ⟨_, _, _, _, _, _⟩) (v := ?_) rfl (by kernel_rfl) (by kernel_rfl) (by kernel_rfl) (fun _ _ _ h => h) (Or.inl ⟨by rfl, ?_⟩) hS ?_
      rotate_left
      · intro w0 hs; subst hs; go_simp; try (with_reducible rfl)
      try simp only [Act.put, List.setIfInBounds_toArray, List.set_cons_zero, List.set_cons_succ]
      refine wpAnyH_take (i := 8) (oi := ⟨_, _, _, _, _, _⟩) (v := ?_) rfl (by kernel_rfl) (by kernel_rfl) (by kernel_rfl) (fun _ _ _ h => h) (Or.inl ⟨by rfl, ?_⟩) hS ?_
      rotate_left
      · intro w0 hs; subst hs; go_simp; try (with_reducible rfl)
      try simp only [Act.put, List.setIfInBounds_toArray, List.set_cons_zero, List.set_cons_succ]
      refine wpAnyH_done (by kernel_rfl) ?_ _
      clear hS
      go_wp2
      go_roundg (n - (k + 1))
      case measure => rw [HG.out]; omega
      case rel => exact ⟨k + 1, hlt, rfl, rfl, HM.out.drew⟩
    · obtain rfl : k = n := by omega
      go_wp2
      go_ret
      exact ⟨rfl, HM.out⟩
theorem valLoop_len {n : Nat} : ∀ {k sum : Nat} {s s' : List Bool} {l : List Nat}, valLoop n k sum s = some (l, s') → l.length = k
  | 0, sum, s, s', l, h => by
    unfold valLoop at h; cases h; rfl
  | k + 1, sum, s, s', l, h => by
    cases hro : riceO 19 (2 * n) s with
    | none => rw [valLoop_none hro] at h; cases h
    | some ds =>
      obtain ⟨d, s2⟩ := ds
      by_cases hov : n * 784931 ≤ sum + d
      · rw [valLoop_over hro hov] at h; cases h
      · rw [valLoop_step hro hov] at h
        cases hv : valLoop n k (sum + d) s2 with
        | none => rw [hv] at h; cases h
        | some p =>
          rw [hv] at h
          obtain ⟨l2, s3⟩ := p
          cases h
          show l2.length + 1 = k + 1
          rw [valLoop_len hv]
theorem valuesS_len {bs : List Int} {l : List Nat} (h : valuesS bs = some l) : l.length ≤ 20000 := by
  unfold valuesS at h
  by_cases h0 : decE bs ≠ 0 ∨ 20000 < decN bs
  · rw [if_pos h0] at h; cases h
  · rw [if_neg h0] at h
    cases hv : valLoop (decN bs) (decN bs) 0 (unpack (decR bs)) with
    | none => rw [hv] at h; cases h
    | some p =>
      obtain ⟨l2, s⟩ := p
      rw [hv] at h
      simp only at h
      by_cases h7 : 7 < s.length
      · rw [if_pos h7] at h; cases h
      · rw [if_neg h7] at h
        by_cases hx : valOf s ≠ 0
        · rw [if_pos hx] at h; cases h
        · rw [if_neg hx] at h
          cases h
          have := valLoop_len hv
          omega
set_option maxHeartbeats 3200000 in
theorem values_walk (a0 : Option Addr) (c0 : Nat) (ys : List Int) (w : World) (hy : Lib.BytesIn w a0 ys.length ys) (hn : ys.length ≤ 140737488351232) (hc : ys.length ≤ c0) (hr : ∀ y ∈ ys, 0 ≤ y ∧ y ≤ 255) (hz : a0 = none → c0 = 0) (hcm : c0 ≤ 140737488351232) :
    Calls Try.prog 7 #[.slice a0 ys.length c0] w fun e w' => e = .returned (.bool true) ∧ Below w.heap.size w w' := by
  have PC := Lib.hid (bclone a0 c0 ys w hy (by omega) hz hc)
  have HY := Lib.hid (And.intro hy (And.intro hc hr))
  clear hy hc hr hz
  go_enter Try.func7, Try.ntmps7
  go_wp2_with fail
  refine PC.out.mono ?_
  rintro e w1 ⟨p1, c1, o1, rfl, R1, ho1, hb1⟩
  obtain ⟨_, _, e1, hy1, hle1, hcm1, _⟩ := R1.form
  cases e1
  have PV := Lib.hid (pvalues ys p1 c1 w1 hy1 HY.out.2.2 hle1 (by unfold maxLen at hcm1; omega) (by omega))
  have HB1 := Lib.hid (And.intro hb1 hy1)
  clear R1 ho1 hb1 hy1 hle1 hcm1
  go_wp2_with fail
  refine PV.out.mono ?_
  rintro e w2 ⟨hb2, hcase⟩
  have hb12 := HB1.out.1.trans (hb2.mono HB1.out.1.size)
  have PR := Lib.hid (rvalues ys a0 c0 w2 (bytes_keep HY.out.1 (Keep.of_below (X := fun _ => False) hb12) (fun _ _ _ h => h)) HY.out.2.2 HY.out.2.1 (by omega) (by omega))
  have HB2 := Lib.hid (And.intro hb2 hb12)
  clear hb2 hb12
  have PEQ : ∀ w3 : World, Below w2.heap.size w2 w3 → Calls Try.prog 13 #[.slice p1 ys.length c1, .slice a0 ys.length c0] w3 fun e w' => e = .returned (.bool true) ∧ w' = w3 := fun w3 hb3 => by
    have k13 : Below w1.heap.size w1 w3 := HB2.out.1.trans (hb3.mono HB2.out.1.size)
    have k03 : Below w.heap.size w w3 := HB2.out.2.trans (hb3.mono HB2.out.2.size)
    have := Try.bytes_Equal_all p1 a0 ys.length c1 ys.length c0 ys ys w3 rfl rfl (bytes_keep HB1.out.2 (Keep.of_below (X := fun _ => False) k13) (fun _ _ _ h => h)) (bytes_keep HY.out.1 (Keep.of_below (X := fun _ => False) k03) (fun _ _ _ h => h))
    rw [beq_self_eq_true] at this
    exact this
  have PEQ := Lib.hid PEQ
  rcases hcase with ⟨hv, rfl⟩ | ⟨l, v, o, hv, rfl, hrow, ho⟩
  · go_wp2_with fail
    refine PR.out.mono ?_
    rintro e w3 ⟨hb3, hcase2⟩
    rcases hcase2 with ⟨_, rfl⟩ | ⟨l2, v2, o2, hv2, _⟩
    · have PU := Lib.hid (u64equal none none 0 0 [] w3 (fun i hi => by simp at hi) (fun i hi => by simp at hi) (by decide))
      have HB3 := Lib.hid hb3
      clear hb3
      go_wp2_with fail
      refine PU.out.mono ?_
      rintro e w4 ⟨rfl, hb4⟩
      have k4 := HB3.out.trans (hb4.mono HB3.out.size)
      have PE4 := Lib.hid (PEQ.out w4 k4)
      have HB4 := Lib.hid (HB2.out.2.trans (k4.mono HB2.out.2.size))
      clear k4 hb4
      go_wp2_with fail
      refine PE4.out.mono ?_
      rintro e w5 ⟨rfl, rfl⟩
      go_wp2_with fail
      refine (awake_true _).mono ?_
      rintro e w6 ⟨rfl, hb6⟩
      have HB6 := Lib.hid (HB4.out.trans (hb6.mono HB4.out.size))
      clear hb6
      go_wp2
      go_ret
      exact ⟨rfl, HB6.out⟩
    · rw [hv] at hv2; cases hv2
  · obtain ⟨q3, c3, rfl, hu⟩ := U64In.of_row hrow
    have hll := valuesS_len hv
    clear hrow ho
    go_wp2_with fail
    refine PR.out.mono ?_
    rintro e w3 ⟨hb3, hcase2⟩
    rcases hcase2 with ⟨hv2, _⟩ | ⟨l2, v2, o2, hv2, rfl, hrow2, _⟩
    · rw [hv] at hv2; cases hv2
    · obtain rfl : l = l2 := by rw [hv] at hv2; exact Option.some.inj hv2
      obtain ⟨q4, c4, rfl, hu2⟩ := U64In.of_row hrow2
      have PU := Lib.hid (u64equal q3 q4 c3 c4 l w3 (hu.below hb3) hu2 (by omega))
      have HB3 := Lib.hid hb3
      clear hb3 hu hu2 hrow2 hv2 hv
      go_wp2_with fail
      refine PU.out.mono ?_
      rintro e w4 ⟨rfl, hb4⟩
      have k4 := HB3.out.trans (hb4.mono HB3.out.size)
      have PE4 := Lib.hid (PEQ.out w4 k4)
      have HB4 := Lib.hid (HB2.out.2.trans (k4.mono HB2.out.2.size))
      clear k4 hb4
      go_wp2_with fail
      refine PE4.out.mono ?_
      rintro e w5 ⟨rfl, rfl⟩
      go_wp2_with fail
      refine (awake_true _).mono ?_
      rintro e w6 ⟨rfl, hb6⟩
      have HB6 := Lib.hid (HB4.out.trans (hb6.mono HB4.out.size))
      clear hb6
      go_wp2
      go_ret
      exact ⟨rfl, HB6.out⟩
end Go.Proofs.Ytppcccocnmhbgaa
