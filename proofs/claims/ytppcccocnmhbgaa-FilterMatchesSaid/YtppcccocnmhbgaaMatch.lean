/- filter.Match. -/
import Derived.Test.YtppcccocnmhbgaaSearch
namespace Go.Proofs.Ytppcccocnmhbgaa
open Go Go.RowKit
set_option linter.unusedSimpArgs false
set_option linter.unusedVariables false
set_option maxRecDepth 100000

/-- does an item stand among the numbers? -/
def matchB (n : Nat) (l : List Nat) (Z : List Int) : Bool := decide (0 < Z.length) && decide (itemV n l.length Z ∈ l)
theorem UnderAt.below {w w' : World} {v : Value} {n k B : Nat} (h : UnderAt w v n k B) (hb : Below w.heap.size w w') : UnderAt w' v n k B := by
  obtain ⟨a, b, c, h0, h1, h2, h3, h4, h5, h6⟩ := h
  exact ⟨a, b, c, h0, h1, h2, h3, (hb.cell (p := ⟨a, 0, none⟩) (cell_lt h4)).trans h4, (hb.cell (p := ⟨b, 0, none⟩) (cell_lt h5)).trans h5, (hb.cell (p := ⟨c, 0, none⟩) (cell_lt h6)).trans h6⟩
/-- the two boxes that Match's closure has -/
structure Boxes (w : World) (lb nb : Nat) (n : Nat) (q : Option Addr) (c : Nat) (l : List Nat) : Prop where
  nums : w.cell? ⟨lb, 0, none⟩ = some (.slice q l.length c)
  fn : ∃ v B, w.cell? ⟨nb, 0, none⟩ = some v ∧ UnderAt w v n l.length B
  elems : U64In w q l
theorem Boxes.below {w w' : World} {lb nb n : Nat} {q : Option Addr} {c : Nat} {l : List Nat} (h : Boxes w lb nb n q c l) (hb : Below w.heap.size w w') : Boxes w' lb nb n q c l := by
  obtain ⟨v, B, h1, h2⟩ := h.fn
  exact ⟨(hb.cell (p := ⟨lb, 0, none⟩) (cell_lt h.nums)).trans h.nums, ⟨v, B, (hb.cell (p := ⟨nb, 0, none⟩) (cell_lt h1)).trans h1, h2.below hb⟩, h.elems.below hb⟩
set_option maxHeartbeats 1600000 in
theorem match1 (lb nb n : Nat) (q : Option Addr) (c : Nat) (l : List Nat) (A : Option Addr) (C : Nat) (Z : List Int) (w : World) (hB : Boxes w lb nb n q c l) (hs : SortedN l) (hn : l.length ≤ 20000) (hR : RowOf w (.slice A Z.length C) A C Z) :
    Calls Try.prog 60 #[.slice A Z.length C, .pointer (some ⟨lb, 0, none⟩), .pointer (some ⟨nb, 0, none⟩)] w fun e w' => e = .returned (.bool (matchB n l Z)) ∧ Below w.heap.size w w' := by
  by_cases h0 : 0 < Z.length
  · have hm : matchB n l Z = decide (itemV n l.length Z ∈ l) := by unfold matchB; rw [decide_eq_true h0, Bool.true_and]
    rw [hm]
    obtain ⟨v, B, hn1, hn2⟩ := hB.fn
    obtain ⟨a, b, d, rfl, u1, u2, u3, u4, u5, u6⟩ := hn2
    have b0 := hB.nums
    have PV := Lib.hid (fun (wx : World) (hb : Below w.heap.size w wx) => pval n l.length a b d A C Z wx hn (hR.below hb) ((hb.cell (p := ⟨a, 0, none⟩) (cell_lt u4)).trans u4) ((hb.cell (p := ⟨b, 0, none⟩) (cell_lt u5)).trans u5) ((hb.cell (p := ⟨d, 0, none⟩) (cell_lt u6)).trans u6))
    have PB := Lib.hid (fun (wx : World) (hb : Below w.heap.size w wx) => bsearch l (itemV n l.length Z) q c wx (hB.elems.below hb) hs (by omega))
    have HC := Lib.hid (And.intro (cell_lt b0) (cell_lt hn1))
    have hz : ¬ ((Z.length : Int) = 0) := by omega
    have hz2 : ¬ (Z.length = 0) := by omega
    generalize decide (itemV n l.length Z ∈ l) = R at *
    generalize itemV n l.length Z = V at *
    generalize Z.length = z at *
    generalize l.length = m at *
    clear hm hB hs hR u1 u2 u3 u4 u5 u6 h0
    go_enter Try.func60, Try.ntmps60
    go_upto_region 3 with fail
    refine wp_region_held_drew (S := fun w' => Below w.heap.size w w') (by kernel_rfl) ((Below.refl _ _).drew) (fun hS => ?_)
    refine wpAnyH_take (i := 0) (oi := ⟨_, _, _, _, _, _⟩) (v := ?_) rfl (by kernel_rfl) (by kernel_rfl) (by kernel_rfl) (fun _ _ _ h => h) (Or.inl ⟨by rfl, ?_⟩) hS ?_
    rotate_left
    · intro w0 hs; have s0 := (hs.cell (p := ⟨lb, 0, none⟩) HC.out.1).trans b0; have s1 := (hs.cell (p := ⟨nb, 0, none⟩) HC.out.2).trans hn1; clear hs; go_simp; try (with_reducible rfl)
    try simp only [Act.put, List.setIfInBounds_toArray, List.set_cons_zero, List.set_cons_succ]
    refine wpAnyH_take (i := 1) (oi := ⟨_, _, _, _, _, _⟩) (v := ?_) rfl (by kernel_rfl) (by kernel_rfl) (by kernel_rfl) (fun _ _ _ h => h) (Or.inl ⟨by rfl, ?_⟩) hS ?_
    rotate_left
    · intro w0 hs; have s0 := (hs.cell (p := ⟨lb, 0, none⟩) HC.out.1).trans b0; have s1 := (hs.cell (p := ⟨nb, 0, none⟩) HC.out.2).trans hn1; clear hs; go_simp; try (with_reducible rfl)
    try simp only [Act.put, List.setIfInBounds_toArray, List.set_cons_zero, List.set_cons_succ]
    refine wpAnyH_take (i := 2) (oi := ⟨_, _, _, _, _, _⟩) (v := ?_) rfl (by kernel_rfl) (by kernel_rfl) (by kernel_rfl) (fun _ _ _ h => h) (Or.inl ⟨by rfl, ?_⟩) hS ?_
    rotate_left
    · intro w0 hs; have s0 := (hs.cell (p := ⟨lb, 0, none⟩) HC.out.1).trans b0; have s1 := (hs.cell (p := ⟨nb, 0, none⟩) HC.out.2).trans hn1; clear hs; go_simp; try (with_reducible rfl)
    try simp only [Act.put, List.setIfInBounds_toArray, List.set_cons_zero, List.set_cons_succ]
    refine wpAnyH_ready (rs := [3]) (by kernel_rfl) (by simp) ?_
    refine AllReadyH.cons (o := ⟨_, _, _, _, _, _⟩) rfl (fun K hK => ?_) AllReadyH.nil
    rw [if_pos (by rfl)]
    go_step
    refine (PV.out _ hS).mono ?_
    rintro e v1 ⟨rfl, hv1⟩
    simp only []
    refine hK.out _ _ (hS.trans (hv1.mono hS.size)) (fun hS' => ?_)
    clear hS hK
    have hS := hS'; clear hS'
    try simp only [Act.put, List.setIfInBounds_toArray, List.set_cons_zero, List.set_cons_succ]
    refine wpAnyH_ready (rs := [4]) (by kernel_rfl) (by simp) ?_
    refine AllReadyH.cons (o := ⟨_, _, _, _, _, _⟩) rfl (fun K hK => ?_) AllReadyH.nil
    rw [if_pos (by rfl)]
    go_step
    refine (PB.out _ hS).mono ?_
    rintro e v2 ⟨⟨i5, rfl⟩, rfl⟩
    simp only []
    refine hK.out _ _ hS (fun hS' => ?_)
    clear hS hK
    have hS := hS'; clear hS'
    try simp only [Act.put, List.setIfInBounds_toArray, List.set_cons_zero, List.set_cons_succ]
    refine wpAnyH_take (i := 5) (oi := ⟨_, _, _, _, _, _⟩) (v := ?_) rfl (by kernel_rfl) (by kernel_rfl) (by kernel_rfl) (fun _ _ _ h => h) (Or.inl ⟨by rfl, ?_⟩) hS ?_
    rotate_left
    · intro w0 hs; have s0 := (hs.cell (p := ⟨lb, 0, none⟩) HC.out.1).trans b0; have s1 := (hs.cell (p := ⟨nb, 0, none⟩) HC.out.2).trans hn1; clear hs; go_simp; try (with_reducible rfl)
    try simp only [Act.put, List.setIfInBounds_toArray, List.set_cons_zero, List.set_cons_succ]
    refine wpAnyH_take (i := 6) (oi := ⟨_, _, _, _, _, _⟩) (v := ?_) rfl (by kernel_rfl) (by kernel_rfl) (by kernel_rfl) (fun _ _ _ h => h) (Or.inl ⟨by rfl, ?_⟩) hS ?_
    rotate_left
    · intro w0 hs; have s0 := (hs.cell (p := ⟨lb, 0, none⟩) HC.out.1).trans b0; have s1 := (hs.cell (p := ⟨nb, 0, none⟩) HC.out.2).trans hn1; clear hs; go_simp; try (with_reducible rfl)
    try simp only [Act.put, List.setIfInBounds_toArray, List.set_cons_zero, List.set_cons_succ]
    refine wpAnyH_take (i := 7) (oi := ⟨_, _, _, _, _, _⟩) (v := ?_) rfl (by kernel_rfl) (by kernel_rfl) (by kernel_rfl) (fun _ _ _ h => h) (Or.inl ⟨by rfl, ?_⟩) hS ?_
    rotate_left
    · intro w0 hs; have s0 := (hs.cell (p := ⟨lb, 0, none⟩) HC.out.1).trans b0; have s1 := (hs.cell (p := ⟨nb, 0, none⟩) HC.out.2).trans hn1; clear hs; go_simp; try (with_reducible rfl)
    try simp only [Act.put, List.setIfInBounds_toArray, List.set_cons_zero, List.set_cons_succ]
    refine wpAnyH_take (i := 8) (oi := ⟨_, _, _, _, _, _⟩) (v := ?_) rfl (by kernel_rfl) (by kernel_rfl) (by kernel_rfl) (fun _ _ _ h => h) (Or.inl ⟨by rfl, ?_⟩) hS ?_
    rotate_left
    · intro w0 hs; have s0 := (hs.cell (p := ⟨lb, 0, none⟩) HC.out.1).trans b0; have s1 := (hs.cell (p := ⟨nb, 0, none⟩) HC.out.2).trans hn1; clear hs; go_simp; try (with_reducible rfl)
    try simp only [Act.put, List.setIfInBounds_toArray, List.set_cons_zero, List.set_cons_succ]
    refine wpAnyH_take (i := 9) (oi := ⟨_, _, _, _, _, _⟩) (v := ?_) rfl (by kernel_rfl) (by kernel_rfl) (by kernel_rfl) (fun _ _ _ h => h) (Or.inl ⟨by rfl, ?_⟩) hS ?_
    rotate_left
    · intro w0 hs; have s0 := (hs.cell (p := ⟨lb, 0, none⟩) HC.out.1).trans b0; have s1 := (hs.cell (p := ⟨nb, 0, none⟩) HC.out.2).trans hn1; clear hs; go_simp; try (with_reducible rfl)
    try simp only [Act.put, List.setIfInBounds_toArray, List.set_cons_zero, List.set_cons_succ]
    refine wpAnyH_done (by kernel_rfl) ?_ _
    have HS := Lib.hid hS
    clear hS
    go_wp2
    go_ret
    exact ⟨rfl, HS.out⟩
  · have hm : matchB n l Z = false := by unfold matchB; rw [decide_eq_false h0, Bool.false_and]
    have hz : Z.length = 0 := by omega
    rw [hm, hz]
    clear hR
    go_enter Try.func60, Try.ntmps60
    go_wp2
    go_ret
    exact ⟨rfl, Below.refl _ _⟩
theorem any_range_succ (P : Nat → Bool) (k : Nat) : (List.range (k + 1)).any P = ((List.range k).any P || P k) := by
  rw [List.range_succ, List.any_append]; simp
set_option maxHeartbeats 1600000 in
/-- IndexFunc over rows, by a closure of two boxes -/
theorem index_rows (P : Nat → Bool) (p1 p2 : Value) (a0 : Option Addr) (len cap : Nat) (A : Nat → Option Addr) (C : Nat → Nat) (Z : Nat → List Int) (w : World) (hR : RowsIn w a0 len A C Z) (hl : len ≤ 9223372036854775807)
    (hP : ∀ wx, Below w.heap.size w wx → ∀ r, r < len → Calls Try.prog 60 #[.slice (A r) (Z r).length (C r), p1, p2] wx fun e w' => e = .returned (.bool (P r)) ∧ Below wx.heap.size wx w') :
    Calls Try.prog 87 #[.slice a0 len cap, .func (.func 60) #[] #[p1, p2]] w fun e w' => (∃ i : Int, e = .returned (.int .i64 i) ∧ decide (0 ≤ i) = (List.range len).any P) ∧ Below w.heap.size w w' := by
  have HR := Lib.hid hR
  have HP := Lib.hid hP
  clear hR hP
  go_enter Try.func87, Try.ntmps87
  go_wp2
  go_loopg [8] len (fun gh i wx => ∃ k : Nat, k ≤ len ∧ i = .int .i64 (k : Int) ∧ gh = len - k ∧ Hid ((List.range k).any P = false ∧ Below w.heap.size w wx))
  case atStart => exact ⟨0, Nat.zero_le _, rfl, rfl, rfl, Below.refl _ _⟩
  case round =>
    obtain ⟨k, hk, rfl, hg, HM⟩ := hrel
    have HG := Lib.hid hg
    clear hg
    by_cases hlt : k < len
    · obtain ⟨b, o, rfl, hc, hrow⟩ := (HR.out.below HM.out.2) k hlt
      have PK := Lib.hid (HP.out wr HM.out.2 k hlt)
      have hany := any_range_succ P k
      rw [HM.out.1, Bool.false_or] at hany
      have HANY := Lib.hid hany
      clear hrow hany
      cases hp : P k with
      | true =>
        rw [hp] at PK HANY
        have hall : (List.range len).any P = true := by
          rw [List.any_eq_true]; exact ⟨k, List.mem_range.2 hlt, hp⟩
        have HALL := Lib.hid hall
        clear hall hp
        go_wp2_with fail
        refine PK.out.mono ?_
        rintro e w1 ⟨rfl, hb1⟩
        have HB := Lib.hid (HM.out.2.trans (hb1.mono HM.out.2.size))
        clear hb1
        go_wp2
        exact bodyPost_ret (results_tmp Try.results87 _ _ _) rfl ⟨⟨_, rfl, by rw [HALL.out]; exact decide_eq_true (by omega)⟩, HB.out⟩
      | false =>
        rw [hp] at PK HANY
        clear hp
        go_wp2_with fail
        refine PK.out.mono ?_
        rintro e w1 ⟨rfl, hb1⟩
        have HB := Lib.hid (HM.out.2.trans (hb1.mono HM.out.2.size))
        clear hb1
        go_wp2
        go_roundg (len - (k + 1))
        case measure => rw [HG.out]; omega
        case rel => exact ⟨k + 1, hlt, rfl, rfl, HANY.out, HB.out⟩
    · obtain rfl : k = len := by omega
      go_wp2
      go_ret
      exact ⟨⟨-1, rfl, by rw [HM.out.1]; rfl⟩, HM.out.2⟩
set_option maxHeartbeats 1600000 in
theorem contains_rows (P : Nat → Bool) (p1 p2 : Value) (a0 : Option Addr) (len cap : Nat) (A : Nat → Option Addr) (C : Nat → Nat) (Z : Nat → List Int) (w : World) (hR : RowsIn w a0 len A C Z) (hl : len ≤ 9223372036854775807)
    (hP : ∀ wx, Below w.heap.size w wx → ∀ r, r < len → Calls Try.prog 60 #[.slice (A r) (Z r).length (C r), p1, p2] wx fun e w' => e = .returned (.bool (P r)) ∧ Below wx.heap.size wx w') :
    Calls Try.prog 59 #[.slice a0 len cap, .func (.func 60) #[] #[p1, p2]] w fun e w' => e = .returned (.bool ((List.range len).any P)) ∧ Below w.heap.size w w' := by
  have PI := Lib.hid (index_rows P p1 p2 a0 len cap A C Z w hR hl hP)
  clear hR hP
  generalize (List.range len).any P = R at *
  go_enter Try.func59, Try.ntmps59
  go_wp2_with fail
  refine PI.out.mono ?_
  rintro e w1 ⟨⟨i, rfl, hi⟩, hb⟩
  have HI := Lib.hid hi
  have HB := Lib.hid hb
  clear hi hb
  go_wp2
  go_ret
  refine ⟨?_, HB.out⟩
  rw [← HI.out]; rfl
end Go.Proofs.Ytppcccocnmhbgaa
