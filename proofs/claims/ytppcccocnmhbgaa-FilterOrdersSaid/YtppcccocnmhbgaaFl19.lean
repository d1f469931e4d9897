import Derived.Test.YtppcccocnmhbgaaFl18
import Derived.Laws.EntriesVeiled
import Derived.Test.YtppcccocnmhbgaaFl10
import Derived.Test.YtppcccocnmhbgaaFl7
section
/- filter.Match. -/
namespace Go.Proofs.Ytppcccocnmhbgaa
open Go Go.RowKit
set_option linter.unusedSimpArgs false
set_option linter.unusedVariables false
set_option maxRecDepth 100000

/-- does an item stand among the numbers? -/
def matchB (n : Nat) (l : List Nat) (Z : List Int) : Bool := decide (0 < Z.length) && decide (itemV n l.length Z ∈ l)
theorem UnderAt.below {w w' : World} {v : Value} {n k B : Nat} (h : UnderAt w v n k B) (hb : Below w.heap.size w w') : UnderAt w' v n k B := by
  obtain ⟨a, b, c, h0, h1, h2, h3, h4, h5, h6⟩ := h
  exact ⟨a, b, c, h0, h1, h2, h3, (hb.cell (p := ⟨a, 0, none⟩) (cell_lt h4)).trans h4, (hb.cell (p := ⟨b, 0, none⟩) (cell_lt h5)).trans h5, (hb.cell (p := ⟨c, 0, none⟩) (cell_lt h6)).trans h6⟩
/-- the two boxes that Match's closure has -/
structure Boxes (w : World) (lb nb : Nat) (n : Nat) (q : Option Addr) (c : Nat) (l : List Nat) : Prop where
  nums : w.cell? ⟨lb, 0, none⟩ = some (.slice q l.length c)
  fn : ∃ v B, w.cell? ⟨nb, 0, none⟩ = some v ∧ UnderAt w v n l.length B
  elems : U64In w q l
theorem Boxes.below {w w' : World} {lb nb n : Nat} {q : Option Addr} {c : Nat} {l : List Nat} (h : Boxes w lb nb n q c l) (hb : Below w.heap.size w w') : Boxes w' lb nb n q c l := by
  obtain ⟨v, B, h1, h2⟩ := h.fn
  exact ⟨(hb.cell (p := ⟨lb, 0, none⟩) (cell_lt h.nums)).trans h.nums, ⟨v, B, (hb.cell (p := ⟨nb, 0, none⟩) (cell_lt h1)).trans h1, h2.below hb⟩, h.elems.below hb⟩
set_option maxHeartbeats 1600000 in
theorem match1 (lb nb n : Nat) (q : Option Addr) (c : Nat) (l : List Nat) (A : Option Addr) (C : Nat) (Z : List Int) (w : World) (hB : Boxes w lb nb n q c l) (hs : SortedN l) (hn : l.length ≤ 20000) (hR : RowOf w (.slice A Z.length C) A C Z) :
    Calls Try.prog 60 #[.slice A Z.length C, .pointer (some ⟨lb, 0, none⟩), .pointer (some ⟨nb, 0, none⟩)] w fun e w' => e = .returned (.bool (matchB n l Z)) ∧ Below w.heap.size w w' := by
  by_cases h0 : 0 < Z.length
  · have hm : matchB n l Z = decide (itemV n l.length Z ∈ l) := by unfold matchB; rw [decide_eq_true h0, Bool.true_and]
    rw [hm]
    obtain ⟨v, B, hn1, hn2⟩ := hB.fn
    obtain ⟨a, b, d, rfl, u1, u2, u3, u4, u5, u6⟩ := hn2
    have b0 := hB.nums
    have PV := Lib.hid (fun (wx : World) (hb : Below w.heap.size w wx) => pval n l.length a b d A C Z wx hn (hR.below hb) ((hb.cell (p := ⟨a, 0, none⟩) (cell_lt u4)).trans u4) ((hb.cell (p := ⟨b, 0, none⟩) (cell_lt u5)).trans u5) ((hb.cell (p := ⟨d, 0, none⟩) (cell_lt u6)).trans u6))
    have PB := Lib.hid (fun (wx : World) (hb : Below w.heap.size w wx) => bsearch l (itemV n l.length Z) q c wx (hB.elems.below hb) hs (by omega))
    have HC := Lib.hid (And.intro (cell_lt b0) (cell_lt hn1))
    have hz : ¬ ((Z.length : Int) = 0) := by omega
    have hz2 : ¬ (Z.length = 0) := by omega
    generalize decide (itemV n l.length Z ∈ l) = R at *
    generalize itemV n l.length Z = V at *
    generalize Z.length = z at *
    generalize l.length = m at *
    clear hm hB hs hR u1 u2 u3 u4 u5 u6 h0
    go_enter Try.func60, Try.ntmps60
    go_upto_region 3 with fail
    refine wp_region_held_drew (S := fun w' => Below w.heap.size w w') (by kernel_rfl) ((Below.refl _ _).drew) (fun hS => ?_)
    refine wpAnyH_take (i := 0) (oi := ⟨_, _, _, _, _, _⟩) (v := ?_) rfl (by kernel_rfl) (by kernel_rfl) (by kernel_rfl) (fun _ _ _ h => h) (Or.inl ⟨by rfl, ?_⟩) hS ?_
    rotate_left
    · intro w0 hs; have s0 := (hs.cell (p := ⟨lb, 0, none⟩) HC.out.1).trans b0; have s1 := (hs.cell (p := ⟨nb, 0, none⟩) HC.out.2).trans hn1; clear hs; go_simp; try (with_reducible rfl)
    try simp only [Act.put, List.setIfInBounds_toArray, List.set_cons_zero, List.set_cons_succ]
    refine wpAnyH_take (i := 1) (oi := ⟨_, _, _, _, _, _⟩) (v := ?_) rfl (by kernel_rfl) (by kernel_rfl) (by kernel_rfl) (fun _ _ _ h => h) (Or.inl ⟨by rfl, ?_⟩) hS ?_
    rotate_left
    · intro w0 hs; have s0 := (hs.cell (p := ⟨lb, 0, none⟩) HC.out.1).trans b0; have s1 := (hs.cell (p := ⟨nb, 0, none⟩) HC.out.2).trans hn1; clear hs; go_simp; try (with_reducible rfl)
    try simp only [Act.put, List.setIfInBounds_toArray, List.set_cons_zero, List.set_cons_succ]
    refine wpAnyH_take (i := 2) (oi := ⟨_, _, _, _, _, _⟩) (v := ?_) rfl (by kernel_rfl) (by kernel_rfl) (by kernel_rfl) (fun _ _ _ h => h) (Or.inl ⟨by rfl, ?_⟩) hS ?_
    rotate_left
    · intro w0 hs; have s0 := (hs.cell (p := ⟨lb, 0, none⟩) HC.out.1).trans b0; have s1 := (hs.cell (p := ⟨nb, 0, none⟩) HC.out.2).trans hn1; clear hs; go_simp; try (with_reducible rfl)
    try simp only [Act.put, List.setIfInBounds_toArray, List.set_cons_zero, List.set_cons_succ]
    refine wpAnyH_ready (rs := [3]) (by kernel_rfl) (by simp) ?_
    refine AllReadyH.cons (o := ⟨_, _, _, _, _, _⟩) rfl (fun K hK => ?_) AllReadyH.nil
    rw [if_pos (by rfl)]
    go_step
    refine (PV.out _ hS).mono ?_
    rintro e v1 ⟨rfl, hv1⟩
    simp only []
    refine hK.out _ _ (hS.trans (hv1.mono hS.size)) (fun hS' => ?_)
    clear hS hK
    have hS := hS'; clear hS'
    try simp only [Act.put, List.setIfInBounds_toArray, List.set_cons_zero, List.set_cons_succ]
    refine wpAnyH_ready (rs := [4]) (by kernel_rfl) (by simp) ?_
    refine AllReadyH.cons (o := ⟨_, _, _, _, _, _⟩) rfl (fun K hK => ?_) AllReadyH.nil
    rw [if_pos (by rfl)]
    go_step
    refine (PB.out _ hS).mono ?_
    rintro e v2 ⟨⟨i5, rfl⟩, rfl⟩
    simp only []
    refine hK.out _ _ hS (fun hS' => ?_)
    clear hS hK
    have hS := hS'; clear hS'
    try simp only [Act.put, List.setIfInBounds_toArray, List.set_cons_zero, List.set_cons_succ]
    refine wpAnyH_take (i := 5) (oi := ⟨_, _, _, _, _, _⟩) (v := ?_) rfl (by kernel_rfl) (by kernel_rfl) (by kernel_rfl) (fun _ _ _ h => h) (Or.inl ⟨by rfl, ?_⟩) hS ?_
    rotate_left
    · intro w0 hs; have s0 := (hs.cell (p := ⟨lb, 0, none⟩) HC.out.1).trans b0; have s1 := (hs.cell (p := ⟨nb, 0, none⟩) HC.out.2).trans hn1; clear hs; go_simp; try (with_reducible rfl)
    try simp only [Act.put, List.setIfInBounds_toArray, List.set_cons_zero, List.set_cons_succ]
    refine wpAnyH_take (i := 6) (oi := ⟨_, _, _, _, _, _⟩) (v := ?_) rfl (by kernel_rfl) (by kernel_rfl) (by kernel_rfl) (fun _ _ _ h => h) (Or.inl ⟨by rfl, ?_⟩) hS ?_
    rotate_left
    · intro w0 hs; have s0 := (hs.cell (p := ⟨lb, 0, none⟩) HC.out.1).trans b0; have s1 := (hs.cell (p := ⟨nb, 0, none⟩) HC.out.2).trans hn1; clear hs; go_simp; try (with_reducible rfl)
    try simp only [Act.put, List.setIfInBounds_toArray, List.set_cons_zero, List.set_cons_succ]
    refine wpAnyH_take (i := 7) (oi := ⟨_, _, _, _, _, _⟩) (v := ?_) rfl (by kernel_rfl) (by kernel_rfl) (by kernel_rfl) (fun _ _ _ h => h) (Or.inl ⟨by rfl, ?_⟩) hS ?_
    rotate_left
    · intro w0 hs; have s0 := (hs.cell (p := ⟨lb, 0, none⟩) HC.out.1).trans b0; have s1 := (hs.cell (p := ⟨nb, 0, none⟩) HC.out.2).trans hn1; clear hs; go_simp; try (with_reducible rfl)
    try simp only [Act.put, List.setIfInBounds_toArray, List.set_cons_zero, List.set_cons_succ]
    refine wpAnyH_take (i := 8) (oi := ⟨_, _, _, _, _, _⟩) (v := ?_) rfl (by kernel_rfl) (by kernel_rfl) (by kernel_rfl) (fun _ _ _ h => h) (Or.inl ⟨by rfl, ?_⟩) hS ?_
    rotate_left
    · intro w0 hs; have s0 := (hs.cell (p := ⟨lb, 0, none⟩) HC.out.1).trans b0; have s1 := (hs.cell (p := ⟨nb, 0, none⟩) HC.out.2).trans hn1; clear hs; go_simp; try (with_reducible rfl)
    try simp only [Act.put, List.setIfInBounds_toArray, List.set_cons_zero, List.set_cons_succ]
    refine wpAnyH_take (i := 9) (oi := ⟨_, _, _, _, _, _⟩) (v := ?_) rfl (by kernel_rfl) (by kernel_rfl) (by kernel_rfl) (fun _ _ _ h => h) (Or.inl ⟨by rfl, ?_⟩) hS ?_
    rotate_left
    · intro w0 hs; have s0 := (hs.cell (p := ⟨lb, 0, none⟩) HC.out.1).trans b0; have s1 := (hs.cell (p := ⟨nb, 0, none⟩) HC.out.2).trans hn1; clear hs; go_simp; try (with_reducible rfl)
    try simp only [Act.put, List.setIfInBounds_toArray, List.set_cons_zero, List.set_cons_succ]
    refine wpAnyH_done (by kernel_rfl) ?_ _
    have HS := Lib.hid hS
    clear hS
    go_wp2
    go_ret
    exact ⟨rfl, HS.out⟩
  · have hm : matchB n l Z = false := by unfold matchB; rw [decide_eq_false h0, Bool.false_and]
    have hz : Z.length = 0 := by omega
    rw [hm, hz]
    clear hR
    go_enter Try.func60, Try.ntmps60
    go_wp2
    go_ret
    exact ⟨rfl, Below.refl _ _⟩
theorem any_range_succ (P : Nat → Bool) (k : Nat) : (List.range (k + 1)).any P = ((List.range k).any P || P k) := by
  rw [List.range_succ, List.any_append]; simp
set_option maxHeartbeats 1600000 in
/-- IndexFunc over rows, by a closure of two boxes -/
theorem index_rows (P : Nat → Bool) (p1 p2 : Value) (a0 : Option Addr) (len cap : Nat) (A : Nat → Option Addr) (C : Nat → Nat) (Z : Nat → List Int) (w : World) (hR : RowsIn w a0 len A C Z) (hl : len ≤ 9223372036854775807)
    (hP : ∀ wx, Below w.heap.size w wx → ∀ r, r < len → Calls Try.prog 60 #[.slice (A r) (Z r).length (C r), p1, p2] wx fun e w' => e = .returned (.bool (P r)) ∧ Below wx.heap.size wx w') :
    Calls Try.prog 87 #[.slice a0 len cap, .func (.func 60) #[] #[p1, p2]] w fun e w' => (∃ i : Int, e = .returned (.int .i64 i) ∧ decide (0 ≤ i) = (List.range len).any P) ∧ Below w.heap.size w w' := by
  have HR := Lib.hid hR
  have HP := Lib.hid hP
  clear hR hP
  go_enter Try.func87, Try.ntmps87
  go_wp2
  go_loopg [8] len (fun gh i wx => ∃ k : Nat, k ≤ len ∧ i = .int .i64 (k : Int) ∧ gh = len - k ∧ Hid ((List.range k).any P = false ∧ Below w.heap.size w wx))
  case atStart => exact ⟨0, Nat.zero_le _, rfl, rfl, rfl, Below.refl _ _⟩
  case round =>
    obtain ⟨k, hk, rfl, hg, HM⟩ := hrel
    have HG := Lib.hid hg
    clear hg
    by_cases hlt : k < len
    · obtain ⟨b, o, rfl, hc, hrow⟩ := (HR.out.below HM.out.2) k hlt
      have PK := Lib.hid (HP.out wr HM.out.2 k hlt)
      have hany := any_range_succ P k
      rw [HM.out.1, Bool.false_or] at hany
      have HANY := Lib.hid hany
      clear hrow hany
      cases hp : P k with
      | true =>
        rw [hp] at PK HANY
        have hall : (List.range len).any P = true := by
          rw [List.any_eq_true]; exact ⟨k, List.mem_range.2 hlt, hp⟩
        have HALL := Lib.hid hall
        clear hall hp
        go_wp2_with fail
        refine PK.out.mono ?_
        rintro e w1 ⟨rfl, hb1⟩
        have HB := Lib.hid (HM.out.2.trans (hb1.mono HM.out.2.size))
        clear hb1
        go_wp2
        exact bodyPost_ret (results_tmp Try.results87 _ _ _) rfl ⟨⟨_, rfl, by rw [HALL.out]; exact decide_eq_true (by omega)⟩, HB.out⟩
      | false =>
        rw [hp] at PK HANY
        clear hp
        go_wp2_with fail
        refine PK.out.mono ?_
        rintro e w1 ⟨rfl, hb1⟩
        have HB := Lib.hid (HM.out.2.trans (hb1.mono HM.out.2.size))
        clear hb1
        go_wp2
        go_roundg (len - (k + 1))
        case measure => rw [HG.out]; omega
        case rel => exact ⟨k + 1, hlt, rfl, rfl, HANY.out, HB.out⟩
    · obtain rfl : k = len := by omega
      go_wp2
      go_ret
      exact ⟨⟨-1, rfl, by rw [HM.out.1]; rfl⟩, HM.out.2⟩
set_option maxHeartbeats 1600000 in
theorem contains_rows (P : Nat → Bool) (p1 p2 : Value) (a0 : Option Addr) (len cap : Nat) (A : Nat → Option Addr) (C : Nat → Nat) (Z : Nat → List Int) (w : World) (hR : RowsIn w a0 len A C Z) (hl : len ≤ 9223372036854775807)
    (hP : ∀ wx, Below w.heap.size w wx → ∀ r, r < len → Calls Try.prog 60 #[.slice (A r) (Z r).length (C r), p1, p2] wx fun e w' => e = .returned (.bool (P r)) ∧ Below wx.heap.size wx w') :
    Calls Try.prog 59 #[.slice a0 len cap, .func (.func 60) #[] #[p1, p2]] w fun e w' => e = .returned (.bool ((List.range len).any P)) ∧ Below w.heap.size w w' := by
  have PI := Lib.hid (index_rows P p1 p2 a0 len cap A C Z w hR hl hP)
  clear hR hP
  generalize (List.range len).any P = R at *
  go_enter Try.func59, Try.ntmps59
  go_wp2_with fail
  refine PI.out.mono ?_
  rintro e w1 ⟨⟨i, rfl, hi⟩, hb⟩
  have HI := Lib.hid hi
  have HB := Lib.hid hb
  clear hi hb
  go_wp2
  go_ret
  refine ⟨?_, HB.out⟩
  rw [← HI.out]; rfl
end Go.Proofs.Ytppcccocnmhbgaa
end

section
/- filter.Match and the document's. -/
namespace Go.Proofs.Ytppcccocnmhbgaa
open Go Go.RowKit
set_option linter.unusedSimpArgs false
set_option linter.unusedVariables false
set_option maxRecDepth 100000

theorem getD_cons (x : Nat) (l : List Nat) (i : Nat) : (x :: l).getD (i + 1) 0 = l.getD i 0 := rfl
theorem SortedN.cons {x : Nat} {l : List Nat} (h : SortedN l) (hx : ∀ i, i < l.length → x ≤ l.getD i 0) : SortedN (x :: l) := fun i j hij hj => by
  rw [List.length_cons] at hj
  match i, j with
  | 0, 0 => exact Nat.le_refl _
  | 0, j + 1 => exact hx j (by omega)
  | i + 1, j + 1 => exact h i j (by omega) (by omega)
theorem valLoop_sorted {n : Nat} : ∀ {k sum : Nat} {s s' : List Bool} {l : List Nat}, valLoop n k sum s = some (l, s') → SortedN l ∧ ∀ i, i < l.length → sum ≤ l.getD i 0
  | 0, sum, s, s', l, h => by
    unfold valLoop at h; cases h; exact ⟨fun i j _ hj => by simp at hj, fun i hi => by simp at hi⟩
  | k + 1, sum, s, s', l, h => by
    cases hro : riceO 19 (2 * n) s with
    | none => rw [valLoop_none hro] at h; cases h
    | some ds =>
      obtain ⟨d, s2⟩ := ds
      by_cases hov : n * 784931 ≤ sum + d
      · rw [valLoop_over hro hov] at h; cases h
      · rw [valLoop_step hro hov] at h
        cases hv : valLoop n k (sum + d) s2 with
        | none => rw [hv] at h; cases h
        | some p =>
          rw [hv] at h
          obtain ⟨l2, s3⟩ := p
          cases h
          obtain ⟨h1, h2⟩ := valLoop_sorted hv
          refine ⟨h1.cons h2, fun i hi => ?_⟩
          match i with
          | 0 => exact Nat.le_add_right _ _
          | i + 1 => exact Nat.le_trans (Nat.le_add_right _ _) (h2 i (by simpa using hi))
theorem valuesS_sorted {bs : List Int} {l : List Nat} (h : valuesS bs = some l) : SortedN l := by
  unfold valuesS at h
  by_cases h0 : decE bs ≠ 0 ∨ 20000 < decN bs
  · rw [if_pos h0] at h; cases h
  · rw [if_neg h0] at h
    cases hv : valLoop (decN bs) (decN bs) 0 (unpack (decR bs)) with
    | none => rw [hv] at h; cases h
    | some p =>
      obtain ⟨l2, s⟩ := p
      rw [hv] at h
      simp only at h
      by_cases h7 : 7 < s.length
      · rw [if_pos h7] at h; cases h
      · rw [if_neg h7] at h
        by_cases hx : valOf s ≠ 0
        · rw [if_pos hx] at h; cases h
        · rw [if_neg hx] at h
          cases h
          exact (valLoop_sorted hv).1
/-- what Match answers -/
def matchE (n : Nat) (bs : List Int) (len : Nat) (Z : Nat → List Int) : Ending := match valuesS bs with
  | none => .returned (.tuple #[.bool false, .int .i64 120])
  | some l => .returned (.tuple #[.bool ((List.range len).any fun r => matchB n l (Z r)), .int .i64 0])
theorem matchE_none {n : Nat} {bs : List Int} {len : Nat} {Z : Nat → List Int} (h : valuesS bs = none) : matchE n bs len Z = .returned (.tuple #[.bool false, .int .i64 120]) := by unfold matchE; rw [h]
theorem matchE_some {n : Nat} {bs : List Int} {len : Nat} {Z : Nat → List Int} {l : List Nat} (h : valuesS bs = some l) : matchE n bs len Z = .returned (.tuple #[.bool ((List.range len).any fun r => matchB n l (Z r)), .int .i64 0]) := by unfold matchE; rw [h]
set_option maxHeartbeats 3200000 in
theorem pmatch (n : Nat) (bs : List Int) (q : Option Addr) (c : Nat) (a0 : Option Addr) (len cap : Nat) (A : Nat → Option Addr) (C : Nat → Nat) (Z : Nat → List Int) (w : World)
    (hy : Lib.BytesIn w q bs.length bs) (hr : ∀ y ∈ bs, 0 ≤ y ∧ y ≤ 255) (hc : bs.length ≤ c) (hcm : c ≤ 9223372036854775807) (hl47 : bs.length ≤ 140737488355328)
    (hR : RowsIn w a0 len A C Z) (hl : len ≤ 9223372036854775807) :
    Calls Try.prog 29 #[hv n, .slice q bs.length c, .slice a0 len cap] w fun e w' => e = matchE n bs len Z ∧ Below w.heap.size w w' := by
  have B0 := Blk.new w (hcs n) 23
  have K0 := (Below.refl w.heap.size w).alloc (Nat.le_refl _) (.cells (hcs n) 23)
  have PV := Lib.hid (pvalues bs q c (w.alloc (.cells (hcs n) 23)) (bytes_keep hy (Keep.of_below (X := fun _ => False) K0) (fun _ _ _ h => h)) hr hc hcm hl47)
  have HB := Lib.hid (And.intro B0 (And.intro K0 (hR.below K0)))
  clear B0 K0 hy hR
  generalize hbn : bs.length = bn at *
  go_enter Try.func29, Try.ntmps29
  go_upto_region 1 with fail
  generalize w.alloc (.cells (hcs n) 23) = w0 at *
  generalize hgw : w.heap.size = hb at *
  go_wp2_with fail
  refine PV.out.mono ?_
  rintro e w1 ⟨hb1, ⟨hno, rfl⟩ | ⟨l, v, o, hsome, rfl, hrow, ho⟩⟩
  · have HE := Lib.hid (matchE_none (n := n) (len := len) (Z := Z) hno)
    have K1 := Lib.hid ((HB.out.2.1.trans (hb1.mono (by rw [← hgw]; exact HB.out.2.1.size))).alloc (by have := HB.out.2.1.size; have := hb1.size; omega) (.cells #[.slice none 0 0] 47))
    clear hb1 hno
    go_wp2
    exact bodyPost_ret (results_tmp2 Try.results29 _ _ _) rfl ⟨HE.out.symm, by rw [hgw]; exact K1.out⟩
  · have HE := Lib.hid (matchE_some (n := n) (len := len) (Z := Z) hsome)
    have hsort := valuesS_sorted hsome
    have hlen := valuesS_len hsome
    obtain ⟨pv, cv, rfl, hU⟩ := U64In.of_row hrow
    have b2 := Blk.new w1 #[.slice pv l.length cv] 47
    have k2 := (Below.refl w1.heap.size w1).alloc (Nat.le_refl _) (.cells #[.slice pv l.length cv] 47)
    have k02 := hb1.trans (k2.mono hb1.size)
    have HU := Lib.hid (hU.below k2)
    have PU := Lib.hid (under_any n l.length (w1.alloc (.cells #[.slice pv l.length cv] 47)))
    have hbx := HB.out.1.beyond k02
    have K2 := Lib.hid (And.intro (HB.out.2.1.trans (k02.mono (by rw [← hgw]; exact HB.out.2.1.size))) (HB.out.2.2.below k02))
    have hc1 : (w1.alloc (.cells #[.slice pv l.length cv] 47)).cell? ⟨w1.heap.size, 0, none⟩ = some (.slice pv l.length cv) := by rw [b2.cell]; rfl
    have HL := Lib.hid (And.intro hsort (And.intro hlen hc1))
    clear hb1 hsome hsort hlen hU hrow ho b2 k2 k02
    go_upto_region 4 with fail
    generalize hw2 : w1.alloc (.cells #[.slice pv l.length cv] 47) = w2 at *
    generalize w1.heap.size = lb at *
    go_wp2_with (refine wpl_load rfl 23 (.tmp 3) rfl rfl hbx Try.underlying23 (by rw [hcs_size]; kernel_rfl) ?_)
    refine PU.out.mono ?_
    rintro e w3 ⟨vf, rfl, hund, hb3⟩
    have hund' := hund
    obtain ⟨ua, ub, uc, hvf, _⟩ := hund'
    subst hvf
    have b4 := Blk.new w3 #[.func (.func 63) #[] #[.pointer (some ⟨ua, 0, none⟩), .pointer (some ⟨ub, 0, none⟩), .pointer (some ⟨uc, 0, none⟩)]] 61
    have k4 := (Below.refl w3.heap.size w3).alloc (Nat.le_refl _) (.cells #[.func (.func 63) #[] #[.pointer (some ⟨ua, 0, none⟩), .pointer (some ⟨ub, 0, none⟩), .pointer (some ⟨uc, 0, none⟩)]] 61)
    have k24 := hb3.trans (k4.mono hb3.size)
    have hbox : Boxes (w3.alloc (.cells #[.func (.func 63) #[] #[.pointer (some ⟨ua, 0, none⟩), .pointer (some ⟨ub, 0, none⟩), .pointer (some ⟨uc, 0, none⟩)]] 61)) lb w3.heap.size n pv cv l :=
      ⟨(k24.cell (p := ⟨lb, 0, none⟩) (cell_lt HL.out.2.2)).trans HL.out.2.2, ⟨_, _, by rw [b4.cell]; rfl, hund.below k4⟩, HU.out.below k24⟩
    have PC := Lib.hid (contains_rows (fun r => matchB n l (Z r)) (.pointer (some ⟨lb, 0, none⟩)) (.pointer (some ⟨w3.heap.size, 0, none⟩)) a0 len cap A C Z (w3.alloc (.cells #[.func (.func 63) #[] #[.pointer (some ⟨ua, 0, none⟩), .pointer (some ⟨ub, 0, none⟩), .pointer (some ⟨uc, 0, none⟩)]] 61)) (K2.out.2.below k24) hl
      (fun wx hb r hr => match1 lb w3.heap.size n pv cv l (A r) (C r) (Z r) wx (hbox.below hb) HL.out.1 HL.out.2.1 (by
        obtain ⟨_, _, _, _, h⟩ := ((K2.out.2.below k24).below hb) r hr
        exact h)))
    have K4 := Lib.hid (K2.out.1.trans (k24.mono (by rw [← hgw]; exact K2.out.1.size)))
    generalize (List.range len).any (fun r => matchB n l (Z r)) = R at *
    clear hund hb3 b4 k4 k24 hbox hbx
    go_wp2_with fail
    refine PC.out.mono ?_
    rintro e w5 ⟨rfl, hb5⟩
    have KF := Lib.hid (K4.out.trans (hb5.mono (by rw [← hgw]; exact K4.out.size)))
    clear hb5
    go_wp2
    exact bodyPost_ret (results_tmp2 Try.results29 _ _ _) rfl ⟨HE.out.symm, by rw [hgw]; exact KF.out⟩
end Go.Proofs.Ytppcccocnmhbgaa
end

section
/- Numbers put in order, written and read back, plainly. -/
namespace Go.Proofs.Ytppcccocnmhbgaa
open Go Go.RowKit
set_option linter.unusedVariables false

/-- put where it belongs -/
def insN (v : Nat) : List Nat → List Nat
  | [] => [v]
  | x :: t => if v < x then v :: x :: t else x :: insN v t
def sortN (l : List Nat) : List Nat := l.foldl (fun s v => insN v s) []
theorem sortN_snoc (l : List Nat) (v : Nat) : sortN (l ++ [v]) = insN v (sortN l) := by simp [sortN]
theorem mem_insN {v x : Nat} : ∀ {l : List Nat}, x ∈ insN v l ↔ x = v ∨ x ∈ l
  | [] => by simp [insN]
  | y :: t => by
    unfold insN
    split
    · simp
    · rw [List.mem_cons, mem_insN, List.mem_cons]
      constructor
      · rintro (h | h | h) <;> simp [h]
      · rintro (h | h | h) <;> simp [h]
theorem insN_length (v : Nat) : ∀ l, (insN v l).length = l.length + 1
  | [] => rfl
  | y :: t => by
    unfold insN
    split
    · rfl
    · rw [List.length_cons, insN_length, List.length_cons]
theorem insN_sorted {v : Nat} : ∀ {l : List Nat}, l.Pairwise (· ≤ ·) → (insN v l).Pairwise (· ≤ ·)
  | [], _ => by simp [insN]
  | y :: t, h => by
    rw [List.pairwise_cons] at h
    unfold insN
    split
    · rename_i hv
      rw [List.pairwise_cons]
      refine ⟨fun a ha => ?_, List.pairwise_cons.2 h⟩
      rcases List.mem_cons.1 ha with rfl | ha
      · omega
      · have := h.1 a ha; omega
    · rename_i hv
      rw [List.pairwise_cons]
      refine ⟨fun a ha => ?_, insN_sorted h.2⟩
      rcases mem_insN.1 ha with rfl | ha
      · omega
      · exact h.1 a ha
theorem mem_sortN {x : Nat} (l : List Nat) : x ∈ sortN l ↔ x ∈ l := by
  have key : ∀ (l s : List Nat), x ∈ l.foldl (fun s v => insN v s) s ↔ x ∈ s ∨ x ∈ l := by
    intro l
    induction l with
    | nil => intro s; simp
    | cons a t ih =>
      intro s
      rw [List.foldl_cons, ih, mem_insN, List.mem_cons]
      constructor
      · rintro ((h | h) | h) <;> simp [h]
      · rintro (h | h | h) <;> simp [h]
  have := key l []
  simpa [sortN] using this
theorem sortN_length (l : List Nat) : (sortN l).length = l.length := by
  have key : ∀ (l s : List Nat), (l.foldl (fun s v => insN v s) s).length = s.length + l.length := by
    intro l
    induction l with
    | nil => intro s; simp
    | cons a t ih => intro s; rw [List.foldl_cons, ih, insN_length, List.length_cons]; omega
  have := key l []
  simpa [sortN] using this
theorem sortN_sorted (l : List Nat) : (sortN l).Pairwise (· ≤ ·) := by
  have key : ∀ (l s : List Nat), s.Pairwise (· ≤ ·) → (l.foldl (fun s v => insN v s) s).Pairwise (· ≤ ·) := by
    intro l
    induction l with
    | nil => intro s h; simpa using h
    | cons a t ih => intro s h; rw [List.foldl_cons]; exact ih _ (insN_sorted h)
  exact key l [] List.Pairwise.nil
theorem insN_at {v : Nat} : ∀ {l : List Nat} {at' : Nat}, at' ≤ l.length → (∀ x ∈ l.take at', x ≤ v) → (∀ x ∈ l.drop at', v < x) → insN v l = l.take at' ++ v :: l.drop at'
  | [], at', h, _, _ => by
    have : at' = 0 := by simpa using h
    subst this; rfl
  | x :: t, 0, _, _, h2 => by
    unfold insN
    rw [if_pos (h2 x (by simp))]; rfl
  | x :: t, k + 1, h, h1, h2 => by
    have hx : x ≤ v := h1 x (by simp)
    unfold insN
    rw [if_neg (by omega), insN_at (at' := k) (by simpa using h) (fun y hy => h1 y (by simp [hy])) (fun y hy => h2 y (by simpa using hy))]
    rfl
theorem take_le {v : Nat} {l : List Nat} {k : Nat} (h : l.Pairwise (· ≤ ·)) (hk : k ≤ l.length) (h1 : k = 0 ∨ l.getD (k - 1) 0 ≤ v) : ∀ x ∈ l.take k, x ≤ v := fun x hx => by
  obtain ⟨i, hi, rfl⟩ := List.mem_take_iff_getElem.1 hx
  have hik : i < k := by omega
  have hi2 : i < l.length := by omega
  rcases h1 with rfl | h1
  · omega
  · have e : l.getD (k - 1) 0 = l[k - 1]'(by omega) := by rw [List.getD_eq_getElem?_getD, List.getElem?_eq_getElem (by omega)]; rfl
    rw [e] at h1
    by_cases hx : i = k - 1
    · subst hx; exact h1
    · have := List.pairwise_iff_getElem.1 h i (k - 1) hi2 (by omega) (by omega)
      omega
/-- the codes of a list in order -/
def codeOf (d : Nat) : List Bool := List.replicate (d / 2 ^ 19) true ++ [false] ++ bitsOf d 19
def codes : Nat → List Nat → List Bool
  | _, [] => []
  | last, v :: t => codeOf (v - last) ++ codes v t
def lastOf (last : Nat) (l : List Nat) : Nat := l.getLastD last
theorem codes_snoc (v : Nat) : ∀ (l : List Nat) (last : Nat), codes last (l ++ [v]) = codes last l ++ codeOf (v - lastOf last l)
  | [], last => by simp [codes, lastOf]
  | x :: t, last => by
    show codeOf (x - last) ++ codes x (t ++ [v]) = codeOf (x - last) ++ codes x t ++ _
    rw [codes_snoc v t x, List.append_assoc]
    congr 3
    cases t <;> rfl
theorem lead_rep (q : Nat) (t : List Bool) : lead (List.replicate q true ++ false :: t) = q := by
  induction q with
  | zero => rfl
  | succ q ih => rw [List.replicate_succ, List.cons_append]; show lead _ + 1 = _; rw [ih]
theorem riceO_code (d most : Nat) (R : List Bool) (h : d / 2 ^ 19 ≤ most) : riceO 19 most (codeOf d ++ R) = some (d, R) := by
  have e : codeOf d ++ R = List.replicate (d / 2 ^ 19) true ++ false :: (bitsOf d 19 ++ R) := by simp [codeOf]
  have hl := bitsOf_length d 19
  have e2 : (List.replicate (d / 2 ^ 19) true ++ false :: (bitsOf d 19 ++ R)).drop (d / 2 ^ 19) = false :: (bitsOf d 19 ++ R) := by
    rw [List.drop_append_of_le_length (by simp)]
    simp
  rw [e]
  unfold riceO
  rw [lead_rep, if_neg (by omega), e2]
  simp only
  rw [if_neg (by rw [List.length_append, hl]; omega), List.take_append_of_le_length (by omega), List.take_of_length_le (by omega), valOf_bitsOf, List.drop_append_of_le_length (by omega), List.drop_of_length_le (by omega), List.nil_append]
  congr 2
  exact Nat.div_add_mod' d (2 ^ 19)
theorem valLoop_codes (n : Nat) (R : List Bool) : ∀ (vs : List Nat) (sum : Nat), vs.Pairwise (· ≤ ·) → (∀ v ∈ vs, sum ≤ v ∧ v < n * 784931) → valLoop n vs.length sum (codes sum vs ++ R) = some (vs, R)
  | [], sum, _, _ => rfl
  | v :: t, sum, h, hv => by
    obtain ⟨h1, h2⟩ := hv v (by simp)
    rw [List.pairwise_cons] at h
    have hq : (v - sum) / 2 ^ 19 ≤ 2 * n := by
      have : (2 : Nat) ^ 19 = 524288 := by decide
      rw [this]; omega
    rw [show codes sum (v :: t) ++ R = codeOf (v - sum) ++ (codes v t ++ R) from List.append_assoc _ _ _, List.length_cons]
    rw [valLoop_step (riceO_code _ _ _ hq) (by omega), show sum + (v - sum) = v from by omega, valLoop_codes n R t v h.2 (fun x hx => ⟨h.1 x hx, (hv x (by simp [hx])).2⟩)]
    rfl
theorem valOf_zeroH (m : Nat) : valOf (List.replicate m false) = 0 := by
  have key : ∀ m, (List.replicate m false).foldl (fun n b => 2 * n + b.toNat) 0 = 0 := by
    intro m; induction m with
    | zero => rfl
    | succ m ih => rw [List.replicate_succ, List.foldl_cons]; exact ih
  exact key m
/-- a count is read as it was written -/
theorem dec_enc (n : Nat) (hn : n ≤ 20000) (r : List Int) : decE (encS n ++ r) = 0 ∧ decN (encS n ++ r) = n ∧ decR (encS n ++ r) = r := by
  by_cases h : n < 253
  · rw [encS_1 h]
    have hw : decW (n : Int) = 0 := by unfold decW; rw [if_neg (by omega), if_neg (by omega), if_neg (by omega)]
    refine ⟨?_, ?_, ?_⟩
    · show (if decW (n : Int) = 0 then (0 : Int) else _) = 0
      rw [if_pos hw]
    · show (if decW (n : Int) = 0 then (n : Int).toNat else _) = n
      rw [if_pos hw]; omega
    · show List.drop (decW (n : Int)) r = r
      rw [hw]; rfl
  · rw [encS_3 h (by omega)]
    have e : leB n 2 = [((n % 256 : Nat) : Int), ((n / 256 % 256 : Nat) : Int)] := by
      show [_, _] = _
      simp
    have hl : leN [((n % 256 : Nat) : Int), ((n / 256 % 256 : Nat) : Int)] = n := by
      simp [leN]; omega
    rw [e]
    refine ⟨?_, ?_, rfl⟩
    · show (if (2 : Nat) = 0 then (0 : Int) else if r.length + 1 + 1 < 2 then 50 else if leN [((n % 256 : Nat) : Int), ((n / 256 % 256 : Nat) : Int)] < 253 then 51 else 0) = 0
      rw [hl, if_neg (by decide), if_neg (by omega), if_neg (by omega)]
    · exact hl
/-- the filter of numbers in order -/
def filterS (vs : List Nat) : List Int := encS vs.length ++ pack (codes 0 vs)
theorem valuesS_filterS {vs : List Nat} (hn : vs.length ≤ 20000) (hs : vs.Pairwise (· ≤ ·)) (hv : ∀ v ∈ vs, v < vs.length * 784931) : valuesS (filterS vs) = some vs := by
  obtain ⟨h1, h2, h3⟩ := dec_enc vs.length hn (pack (codes 0 vs))
  unfold valuesS filterS
  rw [h1, h2, h3, if_neg (by omega), unpack_pack, valLoop_codes vs.length _ vs 0 hs (fun v h => ⟨Nat.zero_le _, hv v h⟩)]
  simp only
  have := pad_lt (codes 0 vs)
  rw [List.length_replicate, if_neg (by omega), valOf_zeroH, if_neg (by decide)]
end Go.Proofs.Ytppcccocnmhbgaa
end

section
/- Rows of numbers, pieces of them put together. -/
namespace Go.Proofs.Ytppcccocnmhbgaa
open Go Go.RowKit
set_option linter.unusedSimpArgs false
set_option linter.unusedVariables false
set_option maxRecDepth 100000

/-- a row of numbers in a block of its own -/
def U64V (w : World) (v : Value) (l : List Nat) (o : Option Nat) : Prop := RowV w 52 1 v l.length (u64s l) o
theorem u64s_one (l : List Nat) : ∀ u ∈ u64s l, u.oneCell' = true := fun u hu => by
  obtain ⟨n, _, rfl⟩ := List.mem_map.1 hu
  rfl
theorem u64s_append (l m : List Nat) : u64s (l ++ m) = u64s l ++ u64s m := by simp [u64s]
/-- numbers that lie somewhere -/
def Piece (w : World) (p : Option Addr) (l : List Nat) : Prop := 0 < l.length → ∃ b f, p = some ⟨b, f, none⟩ ∧ ∀ j, j < l.length → w.cell? ⟨b, f + j, none⟩ = some (.int .u64 (l.getD j 0 : Nat))
theorem Piece.below {w w' : World} {p : Option Addr} {l : List Nat} (h : Piece w p l) (hb : Below w.heap.size w w') : Piece w' p l := fun h0 => by
  obtain ⟨b, f, h1, h2⟩ := h h0
  exact ⟨b, f, h1, fun j hj => (hb.cell (p := ⟨b, f + j, none⟩) (cell_lt (h2 j hj))).trans (h2 j hj)⟩
theorem Piece.keep {X : Nat → Prop} {w w' : World} {b f : Nat} {l : List Nat} (h : Piece w (some ⟨b, f, none⟩) l) (hb : Keep X w w') (hx : ¬ X b) : Piece w' (some ⟨b, f, none⟩) l := fun h0 => by
  obtain ⟨b', f', h1, h2⟩ := h h0
  cases h1
  exact ⟨b, f, rfl, fun j hj => (hb.cell (cell_lt (h2 j hj)) hx).trans (h2 j hj)⟩
theorem app64 {w : World} {v : Value} {l ys : List Nat} {o : Option Nat} (h : U64V w v l o) {p : Option Addr} {c : Nat} (hy : Piece w p ys) (hl : l.length + ys.length ≤ 5000000000000) :
    ∃ v' w' o', (Builtin.append_ #[47, 47] 47 #[v, .slice p ys.length c]).run Try.prog w = .ok v' w' ∧ U64V w' v' (l ++ ys) o' ∧ (o' = o ∨ ∃ g', o' = some g' ∧ w.heap.size ≤ g') ∧ Keep (fun k => o = some k) w w' := by
  obtain ⟨i0, hi, hz0, hz1, hz2⟩ := info_parts u64inf
  by_cases h0 : ys.length = 0
  · obtain rfl : ys = [] := List.eq_nil_of_length_eq_zero h0
    obtain ⟨q, c2, rfl, hc1, hc2, _⟩ := h.form
    have hc3 : l.length ≤ c2 := hc1
    refine ⟨_, w, o, ?_, by rw [List.append_nil]; exact h, .inl rfl, Keep.refl _ _⟩
    cases q <;> cases p <;> simp [Builtin.append_, run_underlying Try.underlying47, sizeOf, typeInfo, hi, Builtin.lenOf, hc3, Builtin.firstCells, loadCells, loadCellsFrom, storeCells]
  · obtain ⟨b, f, rfl, hc⟩ := hy (by omega)
    obtain ⟨v', w', g', r1, r2, r3, r4⟩ := rowV_append (P := Try.prog) 47 47 i0 (.int .u64 0) Try.underlying47 hi hz0 hz1 hz2 rfl (by decide) h (a := ⟨b, f, none⟩) (m := ys.length) (c := c) (news := u64s ys) (by rw [u64s_length, Nat.mul_one]) (fun j u hu => by
      have hj : j < ys.length := by have := (List.getElem?_eq_some_iff.1 hu).1; rwa [u64s_length] at this
      rw [u64s_get ys j hj] at hu
      rw [Addr.add_lit, hc j hj]; exact hu) (u64s_one ys) (by omega) (by unfold maxLen; omega) (by omega)
    refine ⟨v', w', some g', r1, ?_, ?_, r4⟩
    · unfold U64V; rw [List.length_append, u64s_append]; exact r2
    · rcases r3 with h | h
      · exact .inl h.symm
      · exact .inr ⟨g', rfl, h⟩
theorem u64_empty (w : World) (b : Nat) (h : Blk w b #[] 52) : U64V w (.slice (some ⟨b, 0, none⟩) 0 0) [] (some b) :=
  ⟨rfl, .inr ⟨b, 0, #[], rfl, rfl, h, Nat.le_refl _, (by decide), (by decide), rfl⟩⟩
/-- a row of numbers, its blocks from G on -/
def NumsG (w : World) (G : Nat) (v : Value) (l : List Nat) : Prop := ∃ o, U64V w v l o ∧ ∀ g, o = some g → G ≤ g
theorem NumsG.app {W0 w : World} {v : Value} {l ys : List Nat} (hb : Below W0.heap.size W0 w) (h : NumsG w W0.heap.size v l) {p : Option Addr} {c : Nat} (hy : Piece w p ys) (hl : l.length + ys.length ≤ 5000000000000) :
    ∃ v' w', (Builtin.append_ #[47, 47] 47 #[v, .slice p ys.length c]).run Try.prog w = .ok v' w' ∧ NumsG w' W0.heap.size v' (l ++ ys) ∧ Below W0.heap.size W0 w' ∧ ∀ (b : Nat) (u : Value), b < w.heap.size → (∀ c2, v ≠ .slice (some ⟨b, 0, none⟩) l.length c2) → w.cell? ⟨b, 0, none⟩ = some u → w'.cell? ⟨b, 0, none⟩ = some u := by
  obtain ⟨o, h1, h2⟩ := h
  obtain ⟨v', w', o', r1, r2, r3, r4⟩ := app64 h1 hy (c := c) hl
  refine ⟨v', w', r1, ⟨o', r2, fun g hg => ?_⟩, hb.trans (r4.below hb.size (fun g hg => h2 _ hg)), fun b u hbl hne hu => ?_⟩
  · rcases r3 with h | ⟨g', h, hg'⟩
    · rw [h] at hg; exact h2 _ hg
    · rw [h] at hg; cases hg; exact Nat.le_trans hb.size hg'
  · refine (r4.cell (p := ⟨b, 0, none⟩) hbl (fun e => ?_)).trans hu
    obtain ⟨p, c2, e2, _, _, ⟨_, _, _, e3⟩ | ⟨g, e3, e4, _⟩⟩ := h1.form
    · rw [e3] at e; cases e
    · rw [e3] at e; cases e
      exact hne c2 (by rw [e2, e4])
/-- three pieces put together: the first where an empty block lies, the middle one a number of its own -/
theorem ins_first {W0 wS : World} {b0 : Nat} (hb : Below W0.heap.size W0 wS) (h0 : Blk wS b0 #[] 52) (hg : W0.heap.size ≤ b0) {p : Option Addr} {c : Nat} {ys : List Nat} (hy : Piece W0 p ys) (hl : ys.length ≤ 4000000000000) :
    ∃ v' w', (Builtin.append_ #[47, 47] 47 #[.slice (some ⟨b0, 0, none⟩) 0 0, .slice p ys.length c]).run Try.prog wS = .ok v' w' ∧ NumsG w' W0.heap.size v' ys ∧ Below W0.heap.size W0 w' ∧ ∀ (b : Nat) (u : Value), b < wS.heap.size → b ≠ b0 → wS.cell? ⟨b, 0, none⟩ = some u → w'.cell? ⟨b, 0, none⟩ = some u := by
  obtain ⟨v', w', h1, h2, h3, h4⟩ := NumsG.app hb (⟨_, u64_empty wS b0 h0, fun g e => (by cases e; exact hg)⟩ : NumsG wS W0.heap.size (.slice (some ⟨b0, 0, none⟩) 0 0) []) (hy.below hb) (c := c) (by simp; omega)
  exact ⟨v', w', h1, by simpa using h2, h3, fun b u hbl hne hu => h4 b u hbl (fun c2 e => by cases e; exact hne rfl) hu⟩
theorem piece_one {w : World} {b x : Nat} (h : w.cell? ⟨b, 0, none⟩ = some (.int .u64 (x : Int))) : Piece w (some ⟨b, 0, none⟩) [x] := fun _ => ⟨b, 0, rfl, fun j hj => by
  obtain rfl : j = 0 := by simp at hj; omega
  exact h⟩
theorem ins_rest {W0 w1 : World} {v1 : Value} {b x : Nat} {ys zs : List Nat} {p : Option Addr} {c : Nat} (hb : Below W0.heap.size W0 w1) (h : NumsG w1 W0.heap.size v1 ys) (hx : w1.cell? ⟨b, 0, none⟩ = some (.int .u64 (x : Int))) (hy : Piece W0 p zs) (hl : ys.length + zs.length ≤ 4000000000000) :
    ∃ v2 w2 v3 w3, (Builtin.append_ #[47, 47] 47 #[v1, .slice (some ⟨b, 0, none⟩) 1 1]).run Try.prog w1 = .ok v2 w2 ∧ (Builtin.append_ #[47, 47] 47 #[v2, .slice p zs.length c]).run Try.prog w2 = .ok v3 w3 ∧ NumsG w3 W0.heap.size v3 (ys ++ x :: zs) ∧ Below W0.heap.size W0 w2 ∧ Below W0.heap.size W0 w3 := by
  obtain ⟨v2, w2, r2, n2, b2, _⟩ := NumsG.app hb h (piece_one hx) (c := 1) (by simp; omega)
  obtain ⟨v3, w3, r3, n3, b3, _⟩ := NumsG.app b2 n2 (hy.below b2) (c := c) (by simp; omega)
  exact ⟨v2, w2, v3, w3, r2, r3, by simpa using n3, b2, b3⟩
theorem wp_appI {P : Program} {w w' : World} {o : Oper} {a : Act} {K : Act → World → Prop} {Q : Exit → Act → World → Prop} (s x : Operand) (t : TypeId)
    (ho : o.op = .call { callee := .builtin .append, args := #[s, x], argTypes := #[t, t] }) {v1 v2 v' : Value} (hs : a.eval s = v1) (hx : a.eval x = v2)
    (hrun : (Builtin.append_ #[t, t] o.type #[v1, v2]).run P w = .ok v' w') (h : K (a.put o.dst v') w') : o.wp P a w K Q := by
  unfold Oper.wp
  simp [execOp, ho, resolve, invoke, builtin, hs, hx, hrun, Result.andThen]
  exact h
theorem U64V.cell {w : World} {g c : Nat} {l : List Nat} {o : Option Nat} (h : U64V w (.slice (some ⟨g, 0, none⟩) l.length c) l o) (j : Nat) (hj : j < l.length) : w.cell? ⟨g, j, none⟩ = some (.int .u64 (l.getD j 0 : Nat)) := by
  obtain ⟨g', c', h0, h1, h2, h3, h4, h5, _⟩ := RowV.mem h (by omega)
  cases h1
  rw [h5 j (by omega), u64s_get l j hj]
theorem U64V.ptake {w : World} {g c : Nat} {l : List Nat} {o : Option Nat} (h : U64V w (.slice (some ⟨g, 0, none⟩) l.length c) l o) (k : Nat) : Piece w (some ⟨g, 0, none⟩) (l.take k) := fun _ => ⟨g, 0, rfl, fun j hj => by
  rw [List.length_take] at hj
  rw [Nat.zero_add, h.cell j (by omega)]
  simp [List.getD_eq_getElem?_getD, List.getElem?_take, show j < k from by omega]⟩
theorem U64V.pdrop {w : World} {g c : Nat} {l : List Nat} {o : Option Nat} (h : U64V w (.slice (some ⟨g, 0, none⟩) l.length c) l o) (k : Nat) : Piece w (some ⟨g, k, none⟩) (l.drop k) := fun _ => ⟨g, k, rfl, fun j hj => by
  rw [List.length_drop] at hj
  rw [h.cell (k + j) (by omega)]
  simp [List.getD_eq_getElem?_getD, List.getElem?_drop]⟩
theorem NumsG.form {w : World} {G : Nat} {v : Value} {l : List Nat} (h : NumsG w G v l) : (v = .slice none 0 0 ∧ l = []) ∨ ∃ g c o, v = .slice (some ⟨g, 0, none⟩) l.length c ∧ l.length ≤ c ∧ c ≤ maxLen ∧ g < w.heap.size ∧ U64V w (.slice (some ⟨g, 0, none⟩) l.length c) l o := by
  obtain ⟨o, h1, h2⟩ := h
  obtain ⟨p, c, rfl, hc, hm, ⟨rfl, h0, rfl, _⟩ | ⟨g, e1, rfl, hg⟩⟩ := h1.form
  · refine .inl ⟨by rw [h0], List.eq_nil_of_length_eq_zero h0⟩
  · exact .inr ⟨g, c, o, rfl, hc, hm, hg, h1⟩
theorem NumsG.keep {X : Nat → Prop} {w w' : World} {G : Nat} {v : Value} {l : List Nat} (h : NumsG w G v l) (hk : Keep X w w') (hn : ∀ g, G ≤ g → ¬ X g ∨ w.heap.size ≤ g) : NumsG w' G v l := by
  obtain ⟨o, h1, h2⟩ := h
  exact ⟨o, h1.keep hk (fun g hg => (hn g (h2 g hg)).resolve_right (by have := h1.lt g hg; omega)), h2⟩
theorem NumsG.more {w w' : World} {G : Nat} {v : Value} {l : List Nat} (h : NumsG w G v l) (hb : Below w.heap.size w w') : NumsG w' G v l := by
  obtain ⟨o, h1, h2⟩ := h
  exact ⟨o, h1.keep (Keep.of_below (X := fun _ => False) hb) (fun _ _ h => h), h2⟩
theorem NumsG.less {w : World} {G G' : Nat} {v : Value} {l : List Nat} (h : NumsG w G v l) (hg : G' ≤ G) : NumsG w G' v l := by
  obtain ⟨o, h1, h2⟩ := h
  exact ⟨o, h1, fun g e => Nat.le_trans hg (h2 g e)⟩
theorem NumsG.nil (w : World) (G : Nat) : NumsG w G (.slice none 0 0) [] := ⟨none, RowV.nil _ _ _, fun g hg => by cases hg⟩
theorem take_snocN (s : List Nat) (k : Nat) (h : k < s.length) : s.take (k + 1) = s.take k ++ [s.getD k 0] := by
  rw [List.take_add_one, List.getD_eq_getElem?_getD]
  simp [List.getElem?_eq_getElem h]
theorem drop_consN (s : List Nat) (k : Nat) (h : k < s.length) : s.drop k = s.getD k 0 :: s.drop (k + 1) := by
  rw [List.drop_eq_getElem_cons h]; simp [List.getD, h]
/-- the three pieces, in each order in which the machine may make them -/
theorem ins_all (w : World) {p1 p2 : Option Addr} {a b c1 c2 x : Nat} {ys zs : List Nat} (P1 : Piece w p1 ys) (P2 : Piece w p2 zs) (ha : ys.length = a) (hb : zs.length = b) (hl : a + b ≤ 1000000) :
    (∃ v1 w1 v2 w2 v3 w3, (Builtin.append_ #[47, 47] 47 #[.slice (some ⟨w.heap.size, 0, none⟩) 0 0, .slice p1 a c1]).run Try.prog (w.drew.alloc (.cells #[] 52)) = .ok v1 w1 ∧ (Builtin.append_ #[47, 47] 47 #[v1, .slice (some ⟨w1.heap.size, 0, none⟩) 1 1]).run Try.prog (w1.alloc (.cells #[.int .u64 (x : Int)] 52)) = .ok v2 w2 ∧ (Builtin.append_ #[47, 47] 47 #[v2, .slice p2 b c2]).run Try.prog w2 = .ok v3 w3 ∧ Below w.heap.size w w1 ∧ Below w.heap.size w w2 ∧ Below w.heap.size w w3 ∧ NumsG w3 w.heap.size v3 (ys ++ x :: zs)) ∧
    (∃ v1 w1 v2 w2 v3 w3, (Builtin.append_ #[47, 47] 47 #[.slice (some ⟨w.heap.size, 0, none⟩) 0 0, .slice p1 a c1]).run Try.prog ((w.drew.alloc (.cells #[] 52)).alloc (.cells #[.int .u64 (x : Int)] 52)) = .ok v1 w1 ∧ (Builtin.append_ #[47, 47] 47 #[v1, .slice (some ⟨w.heap.size + 1, 0, none⟩) 1 1]).run Try.prog w1 = .ok v2 w2 ∧ (Builtin.append_ #[47, 47] 47 #[v2, .slice p2 b c2]).run Try.prog w2 = .ok v3 w3 ∧ Below w.heap.size w w1 ∧ Below w.heap.size w w2 ∧ Below w.heap.size w w3 ∧ NumsG w3 w.heap.size v3 (ys ++ x :: zs)) ∧
    (∃ v1 w1 v2 w2 v3 w3, (Builtin.append_ #[47, 47] 47 #[.slice (some ⟨w.heap.size + 1, 0, none⟩) 0 0, .slice p1 a c1]).run Try.prog ((w.drew.alloc (.cells #[.int .u64 (x : Int)] 52)).alloc (.cells #[] 52)) = .ok v1 w1 ∧ (Builtin.append_ #[47, 47] 47 #[v1, .slice (some ⟨w.heap.size, 0, none⟩) 1 1]).run Try.prog w1 = .ok v2 w2 ∧ (Builtin.append_ #[47, 47] 47 #[v2, .slice p2 b c2]).run Try.prog w2 = .ok v3 w3 ∧ Below w.heap.size w w1 ∧ Below w.heap.size w w2 ∧ Below w.heap.size w w3 ∧ NumsG w3 w.heap.size v3 (ys ++ x :: zs)) := by
  subst ha hb
  have k0 : Below w.heap.size w w.drew := (Below.refl _ _).drew
  have P1 : Piece w.drew p1 ys := P1.below k0
  have P2 : Piece w.drew p2 zs := P2.below k0
  have hs : w.drew.heap.size = w.heap.size := rfl
  generalize w.drew = W at *
  have kk : ∀ w', Below W.heap.size W w' → Below w.heap.size w w' := fun w' h => k0.trans (h.mono (by rw [hs]; exact Nat.le_refl _))
  rw [← hs]
  have hsz : ∀ o, (W.alloc o).heap.size = W.heap.size + 1 := fun o => by simp
  refine ⟨?_, ?_, ?_⟩
  · have bS := (Below.refl W.heap.size W).alloc (Nat.le_refl _) (.cells #[] 52)
    obtain ⟨v1, w1, r1, n1, b1, _⟩ := ins_first bS (Blk.new W #[] 52) (Nat.le_refl _) P1 (c := c1) (by omega)
    obtain ⟨v2, w2, v3, w3, r2, r3, n3, b2, b3⟩ := ins_rest (x := x) (b1.alloc b1.size (.cells #[.int .u64 (x : Int)] 52)) (n1.more ((Below.refl _ w1).alloc (Nat.le_refl _) _)) ((Blk.new w1 #[.int .u64 (x : Int)] 52).cell 0) P2 (c := c2) (by omega)
    exact ⟨v1, w1, v2, w2, v3, w3, r1, r2, r3, by rw [hs]; exact kk _ b1, by rw [hs]; exact kk _ b2, by rw [hs]; exact kk _ b3, n3⟩
  · have bS := (Below.refl W.heap.size W).alloc (Nat.le_refl _) (.cells #[] 52)
    have bS2 := bS.alloc bS.size (.cells #[.int .u64 (x : Int)] 52)
    have hx := (Blk.new (W.alloc (.cells #[] 52)) #[.int .u64 (x : Int)] 52).cell 0
    rw [hsz] at hx
    obtain ⟨v1, w1, r1, n1, b1, h1⟩ := ins_first bS2 ((Blk.new W #[] 52).beyond ((Below.refl _ _).alloc (Nat.le_refl _) _)) (Nat.le_refl _) P1 (c := c1) (by omega)
    obtain ⟨v2, w2, v3, w3, r2, r3, n3, b2, b3⟩ := ins_rest (x := x) b1 n1 (h1 _ _ (by simp) (by omega) hx) P2 (c := c2) (by omega)
    exact ⟨v1, w1, v2, w2, v3, w3, r1, r2, r3, by rw [hs]; exact kk _ b1, by rw [hs]; exact kk _ b2, by rw [hs]; exact kk _ b3, n3⟩
  · have bS := (Below.refl W.heap.size W).alloc (Nat.le_refl _) (.cells #[.int .u64 (x : Int)] 52)
    have bS2 := bS.alloc bS.size (.cells #[] 52)
    have hx := (Blk.new W #[.int .u64 (x : Int)] 52).cell 0
    have hb0 := Blk.new (W.alloc (.cells #[.int .u64 (x : Int)] 52)) #[] 52
    rw [hsz] at hb0
    have hx2 := (((Below.refl (W.alloc (.cells #[.int .u64 (x : Int)] 52)).heap.size _).alloc (Nat.le_refl _) (.cells #[] 52)).cell (p := ⟨W.heap.size, 0, none⟩) (by rw [hsz]; exact Nat.lt_succ_self _)).trans hx
    obtain ⟨v1, w1, r1, n1, b1, h1⟩ := ins_first bS2 hb0 (by omega) P1 (c := c1) (by omega)
    obtain ⟨v2, w2, v3, w3, r2, r3, n3, b2, b3⟩ := ins_rest (x := x) b1 n1 (h1 _ _ (by simp; omega) (by omega) hx2) P2 (c := c2) (by omega)
    exact ⟨v1, w1, v2, w2, v3, w3, r1, r2, r3, by rw [hs]; exact kk _ b1, by rw [hs]; exact kk _ b2, by rw [hs]; exact kk _ b3, n3⟩
theorem lastOf_snoc (l : List Nat) (v a : Nat) : lastOf a (l ++ [v]) = v := by simp [lastOf]
theorem last_le {s : List Nat} (h : s.Pairwise (· ≤ ·)) {j : Nat} (hj : j < s.length) : lastOf 0 (s.take j) ≤ s.getD j 0 := by
  cases j with
  | zero => exact Nat.zero_le _
  | succ i =>
    rw [take_snocN s i (by omega), lastOf_snoc]
    have e1 : s.getD i 0 = s[i] := by rw [List.getD_eq_getElem?_getD, List.getElem?_eq_getElem (by omega)]; rfl
    have e2 : s.getD (i + 1) 0 = s[i + 1] := by rw [List.getD_eq_getElem?_getD, List.getElem?_eq_getElem hj]; rfl
    rw [e1, e2]
    exact List.pairwise_iff_getElem.1 h i (i + 1) (by omega) hj (by omega)
theorem NumsG.piece {w : World} {G : Nat} {v : Value} {l : List Nat} (h : NumsG w G v l) : ∃ p c, v = .slice p l.length c ∧ Piece w p l := by
  rcases h.form with ⟨rfl, rfl⟩ | ⟨g, c, o, rfl, _, _, _, hU⟩
  · exact ⟨none, 0, rfl, fun h => absurd h (by simp)⟩
  · exact ⟨some ⟨g, 0, none⟩, c, rfl, fun _ => ⟨g, 0, rfl, fun j hj => by rw [Nat.zero_add]; exact hU.cell j hj⟩⟩
theorem encS_len (n : Nat) : (encS n).length ≤ 9 := by
  unfold encS
  split
  · simp
  · split
    · simp [leB_length]
    · split <;> simp [leB_length]
/-- the writer's code is ours -/
theorem riceL_code (l : List Bool) {d : Nat} (h : d < 15700000000) : riceL l d 19 = l ++ codeOf d := by
  have e : (19 : Int).toNat = 19 := rfl
  unfold riceL codeOf
  rw [e, if_neg (by
    have : (2 : Nat) ^ 19 = 524288 := by decide
    rw [this]; omega)]
  simp [List.append_assoc]
/-- a code is short -/
theorem codeOf_len {d : Nat} (h : d < 15700000000) : (codeOf d).length ≤ 30000 := by
  unfold codeOf
  rw [List.length_append, List.length_append, bitsOf_length, List.length_replicate]
  have : (2 : Nat) ^ 19 = 524288 := by decide
  rw [this]
  simp only [List.length_cons, List.length_nil]
  omega
theorem codes_len : ∀ {l : List Nat} {last : Nat}, (∀ v ∈ l, v < 15700000000) → (codes last l).length ≤ l.length * 30000
  | [], _, _ => Nat.zero_le _
  | v :: t, last, h => by
    have h1 := codes_len (l := t) (last := v) (fun x hx => h x (by simp [hx]))
    have h2 := codeOf_len (d := v - last) (by have := h v (by simp); omega)
    show (codeOf (v - last) ++ codes v t).length ≤ (t.length + 1) * 30000
    rw [List.length_append]
    omega
/-- the filter's bytes of items, each once -/
def buildS (n : Nat) (its : List (List Int)) : List Int := filterS (sortN (its.map (itemV n its.length)))
end Go.Proofs.Ytppcccocnmhbgaa
end
