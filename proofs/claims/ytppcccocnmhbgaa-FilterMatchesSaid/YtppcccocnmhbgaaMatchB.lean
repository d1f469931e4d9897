/- filter.Match and the document's. -/
import Derived.Test.YtppcccocnmhbgaaMatch
import Derived.Laws.EntriesVeiled
namespace Go.Proofs.Ytppcccocnmhbgaa
open Go Go.RowKit
set_option linter.unusedSimpArgs false
set_option linter.unusedVariables false
set_option maxRecDepth 100000

theorem getD_cons (x : Nat) (l : List Nat) (i : Nat) : (x :: l).getD (i + 1) 0 = l.getD i 0 := rfl
theorem SortedN.cons {x : Nat} {l : List Nat} (h : SortedN l) (hx : ∀ i, i < l.length → x ≤ l.getD i 0) : SortedN (x :: l) := fun i j hij hj => by
  rw [List.length_cons] at hj
  match i, j with
  | 0, 0 => exact Nat.le_refl _
  | 0, j + 1 => exact hx j (by omega)
  | i + 1, j + 1 => exact h i j (by omega) (by omega)
theorem valLoop_sorted {n : Nat} : ∀ {k sum : Nat} {s s' : List Bool} {l : List Nat}, valLoop n k sum s = some (l, s') → SortedN l ∧ ∀ i, i < l.length → sum ≤ l.getD i 0
  | 0, sum, s, s', l, h => by
    unfold valLoop at h; cases h; exact ⟨fun i j _ hj => by simp at hj, fun i hi => by simp at hi⟩
  | k + 1, sum, s, s', l, h => by
    cases hro : riceO 19 (2 * n) s with
    | none => rw [valLoop_none hro] at h; cases h
    | some ds =>
      obtain ⟨d, s2⟩ := ds
      by_cases hov : n * 784931 ≤ sum + d
      · rw [valLoop_over hro hov] at h; cases h
      · rw [valLoop_step hro hov] at h
        cases hv : valLoop n k (sum + d) s2 with
        | none => rw [hv] at h; cases h
        | some p =>
          rw [hv] at h
          obtain ⟨l2, s3⟩ := p
          cases h
          obtain ⟨h1, h2⟩ := valLoop_sorted hv
          refine ⟨h1.cons h2, fun i hi => ?_⟩
          match i with
          | 0 => exact Nat.le_add_right _ _
          | i + 1 => exact Nat.le_trans (Nat.le_add_right _ _) (h2 i (by simpa using hi))
theorem valuesS_sorted {bs : List Int} {l : List Nat} (h : valuesS bs = some l) : SortedN l := by
  unfold valuesS at h
  by_cases h0 : decE bs ≠ 0 ∨ 20000 < decN bs
  · rw [if_pos h0] at h; cases h
  · rw [if_neg h0] at h
    cases hv : valLoop (decN bs) (decN bs) 0 (unpack (decR bs)) with
    | none => rw [hv] at h; cases h
    | some p =>
      obtain ⟨l2, s⟩ := p
      rw [hv] at h
      simp only at h
      by_cases h7 : 7 < s.length
      · rw [if_pos h7] at h; cases h
      · rw [if_neg h7] at h
        by_cases hx : valOf s ≠ 0
        · rw [if_pos hx] at h; cases h
        · rw [if_neg hx] at h
          cases h
          exact (valLoop_sorted hv).1
/-- what Match answers -/
def matchE (n : Nat) (bs : List Int) (len : Nat) (Z : Nat → List Int) : Ending := match valuesS bs with
  | none => .returned (.tuple #[.bool false, .int .i64 120])
  | some l => .returned (.tuple #[.bool ((List.range len).any fun r => matchB n l (Z r)), .int .i64 0])
theorem matchE_none {n : Nat} {bs : List Int} {len : Nat} {Z : Nat → List Int} (h : valuesS bs = none) : matchE n bs len Z = .returned (.tuple #[.bool false, .int .i64 120]) := by unfold matchE; rw [h]
theorem matchE_some {n : Nat} {bs : List Int} {len : Nat} {Z : Nat → List Int} {l : List Nat} (h : valuesS bs = some l) : matchE n bs len Z = .returned (.tuple #[.bool ((List.range len).any fun r => matchB n l (Z r)), .int .i64 0]) := by unfold matchE; rw [h]
set_option maxHeartbeats 3200000 in
theorem pmatch (n : Nat) (bs : List Int) (q : Option Addr) (c : Nat) (a0 : Option Addr) (len cap : Nat) (A : Nat → Option Addr) (C : Nat → Nat) (Z : Nat → List Int) (w : World)
    (hy : Lib.BytesIn w q bs.length bs) (hr : ∀ y ∈ bs, 0 ≤ y ∧ y ≤ 255) (hc : bs.length ≤ c) (hcm : c ≤ 9223372036854775807) (hl47 : bs.length ≤ 140737488355328)
    (hR : RowsIn w a0 len A C Z) (hl : len ≤ 9223372036854775807) :
    Calls Try.prog 29 #[hv n, .slice q bs.length c, .slice a0 len cap] w fun e w' => e = matchE n bs len Z ∧ Below w.heap.size w w' := by
  have B0 := Blk.new w (hcs n) 23
  have K0 := (Below.refl w.heap.size w).alloc (Nat.le_refl _) (.cells (hcs n) 23)
  have PV := Lib.hid (pvalues bs q c (w.alloc (.cells (hcs n) 23)) (bytes_keep hy (Keep.of_below (X := fun _ => False) K0) (fun _ _ _ h => h)) hr hc hcm hl47)
  have HB := Lib.hid (And.intro B0 (And.intro K0 (hR.below K0)))
  clear B0 K0 hy hR
  generalize hbn : bs.length = bn at *
  go_enter Try.func29, Try.ntmps29
  go_upto_region 1 with fail
  generalize w.alloc (.cells (hcs n) 23) = w0 at *
  generalize hgw : w.heap.size = hb at *
  go_wp2_with fail
  refine PV.out.mono ?_
  rintro e w1 ⟨hb1, ⟨hno, rfl⟩ | ⟨l, v, o, hsome, rfl, hrow, ho⟩⟩
  · have HE := Lib.hid (matchE_none (n := n) (len := len) (Z := Z) hno)
    have K1 := Lib.hid ((HB.out.2.1.trans (hb1.mono (by rw [← hgw]; exact HB.out.2.1.size))).alloc (by have := HB.out.2.1.size; have := hb1.size; omega) (.cells #[.slice none 0 0] 47))
    clear hb1 hno
    go_wp2
    exact bodyPost_ret (results_tmp2 Try.results29 _ _ _) rfl ⟨HE.out.symm, by rw [hgw]; exact K1.out⟩
  · have HE := Lib.hid (matchE_some (n := n) (len := len) (Z := Z) hsome)
    have hsort := valuesS_sorted hsome
    have hlen := valuesS_len hsome
    obtain ⟨pv, cv, rfl, hU⟩ := U64In.of_row hrow
    have b2 := Blk.new w1 #[.slice pv l.length cv] 47
    have k2 := (Below.refl w1.heap.size w1).alloc (Nat.le_refl _) (.cells #[.slice pv l.length cv] 47)
    have k02 := hb1.trans (k2.mono hb1.size)
    have HU := Lib.hid (hU.below k2)
    have PU := Lib.hid (under_any n l.length (w1.alloc (.cells #[.slice pv l.length cv] 47)))
    have hbx := HB.out.1.beyond k02
    have K2 := Lib.hid (And.intro (HB.out.2.1.trans (k02.mono (by rw [← hgw]; exact HB.out.2.1.size))) (HB.out.2.2.below k02))
    have hc1 : (w1.alloc (.cells #[.slice pv l.length cv] 47)).cell? ⟨w1.heap.size, 0, none⟩ = some (.slice pv l.length cv) := by rw [b2.cell]; rfl
    have HL := Lib.hid (And.intro hsort (And.intro hlen hc1))
    clear hb1 hsome hsort hlen hU hrow ho b2 k2 k02
    go_upto_region 4 with fail
    generalize hw2 : w1.alloc (.cells #[.slice pv l.length cv] 47) = w2 at *
    generalize w1.heap.size = lb at *
    go_wp2_with (refine wpl_load rfl 23 (.tmp 3) rfl rfl hbx Try.underlying23 (by rw [hcs_size]; kernel_rfl) ?_)
    refine PU.out.mono ?_
    rintro e w3 ⟨vf, rfl, hund, hb3⟩
    have hund' := hund
    obtain ⟨ua, ub, uc, hvf, _⟩ := hund'
    subst hvf
    have b4 := Blk.new w3 #[.func (.func 63) #[] #[.pointer (some ⟨ua, 0, none⟩), .pointer (some ⟨ub, 0, none⟩), .pointer (some ⟨uc, 0, none⟩)]] 61
    have k4 := (Below.refl w3.heap.size w3).alloc (Nat.le_refl _) (.cells #[.func (.func 63) #[] #[.pointer (some ⟨ua, 0, none⟩), .pointer (some ⟨ub, 0, none⟩), .pointer (some ⟨uc, 0, none⟩)]] 61)
    have k24 := hb3.trans (k4.mono hb3.size)
    have hbox : Boxes (w3.alloc (.cells #[.func (.func 63) #[] #[.pointer (some ⟨ua, 0, none⟩), .pointer (some ⟨ub, 0, none⟩), .pointer (some ⟨uc, 0, none⟩)]] 61)) lb w3.heap.size n pv cv l :=
      ⟨(k24.cell (p := ⟨lb, 0, none⟩) (cell_lt HL.out.2.2)).trans HL.out.2.2, ⟨_, _, by rw [b4.cell]; rfl, hund.below k4⟩, HU.out.below k24⟩
    have PC := Lib.hid (contains_rows (fun r => matchB n l (Z r)) (.pointer (some ⟨lb, 0, none⟩)) (.pointer (some ⟨w3.heap.size, 0, none⟩)) a0 len cap A C Z (w3.alloc (.cells #[.func (.func 63) #[] #[.pointer (some ⟨ua, 0, none⟩), .pointer (some ⟨ub, 0, none⟩), .pointer (some ⟨uc, 0, none⟩)]] 61)) (K2.out.2.below k24) hl
      (fun wx hb r hr => match1 lb w3.heap.size n pv cv l (A r) (C r) (Z r) wx (hbox.below hb) HL.out.1 HL.out.2.1 (by
        obtain ⟨_, _, _, _, h⟩ := ((K2.out.2.below k24).below hb) r hr
        exact h)))
    have K4 := Lib.hid (K2.out.1.trans (k24.mono (by rw [← hgw]; exact K2.out.1.size)))
    generalize (List.range len).any (fun r => matchB n l (Z r)) = R at *
    clear hund hb3 b4 k4 k24 hbox hbx
    go_wp2_with fail
    refine PC.out.mono ?_
    rintro e w5 ⟨rfl, hb5⟩
    have KF := Lib.hid (K4.out.trans (hb5.mono (by rw [← hgw]; exact K4.out.size)))
    clear hb5
    go_wp2
    exact bodyPost_ret (results_tmp2 Try.results29 _ _ _) rfl ⟨HE.out.symm, by rw [hgw]; exact KF.out⟩
end Go.Proofs.Ytppcccocnmhbgaa
