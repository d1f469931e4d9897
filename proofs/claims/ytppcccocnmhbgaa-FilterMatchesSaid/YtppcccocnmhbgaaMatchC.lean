/- The document's Match, and the law FilterMatches. -/
import Derived.Test.YtppcccocnmhbgaaMatchB
namespace Go.Proofs.Ytppcccocnmhbgaa
open Go Go.RowKit
set_option linter.unusedSimpArgs false
set_option linter.unusedVariables false
set_option maxRecDepth 100000

theorem not_mem_getD {l : List Nat} {v : Nat} (h : ∀ i, i < l.length → l.getD i 0 ≠ v) : v ∉ l := fun hm => by
  obtain ⟨i, hi, e⟩ := List.mem_iff_getElem.1 hm
  refine h i hi ?_
  rw [List.getD_eq_getElem?_getD, List.getElem?_eq_getElem hi]; exact e
theorem mem_getD {l : List Nat} {i : Nat} (hi : i < l.length) : l.getD i 0 ∈ l := by
  rw [List.getD_eq_getElem?_getD, List.getElem?_eq_getElem hi]; exact List.getElem_mem hi
set_option maxHeartbeats 3200000 in
theorem rmatch (n : Nat) (bs : List Int) (q : Option Addr) (c : Nat) (a0 : Option Addr) (len cap : Nat) (A : Nat → Option Addr) (C : Nat → Nat) (Z : Nat → List Int) (w : World)
    (hy : Lib.BytesIn w q bs.length bs) (hr : ∀ y ∈ bs, 0 ≤ y ∧ y ≤ 255) (hc : bs.length ≤ c) (hcm : c ≤ 9223372036854775807) (hl47 : bs.length ≤ 140737488355328)
    (hR : RowsIn w a0 len A C Z) (hl : len ≤ 9223372036854775807) :
    Calls Try.prog 30 #[hv n, .slice q bs.length c, .slice a0 len cap] w fun e w' => e = matchE n bs len Z ∧ Below w.heap.size w w' := by
  have B0 := Blk.new w (hcs n) 23
  have K0 := (Below.refl w.heap.size w).alloc (Nat.le_refl _) (.cells (hcs n) 23)
  have PV := Lib.hid (rvalues bs q c (w.alloc (.cells (hcs n) 23)) (bytes_keep hy (Keep.of_below (X := fun _ => False) K0) (fun _ _ _ h => h)) hr hc hcm hl47)
  have HB := Lib.hid (And.intro B0 (And.intro K0 (hR.below K0)))
  clear B0 K0 hy hR
  generalize hbn : bs.length = bn at *
  go_enter Try.func30, Try.ntmps30
  go_upto_region 1 with fail
  generalize w.alloc (.cells (hcs n) 23) = w0 at *
  generalize hgw : w.heap.size = hb at *
  go_wp2_with fail
  refine PV.out.mono ?_
  rintro e w1 ⟨hb1, ⟨hno, rfl⟩ | ⟨l, v, o, hsome, rfl, hrow, ho⟩⟩
  · have HE := Lib.hid (matchE_none (n := n) (len := len) (Z := Z) hno)
    have K1 := Lib.hid (HB.out.2.1.trans (hb1.mono (by rw [← hgw]; exact HB.out.2.1.size)))
    clear hb1 hno
    go_wp2
    exact bodyPost_ret (results_tmp2 Try.results30 _ _ _) rfl ⟨HE.out.symm, by rw [hgw]; exact K1.out⟩
  · have HE := Lib.hid (matchE_some (n := n) (len := len) (Z := Z) hsome)
    have hlen := valuesS_len hsome
    obtain ⟨pv, cv, rfl, hU⟩ := U64In.of_row hrow
    have K1 := Lib.hid (HB.out.2.1.trans (hb1.mono (by rw [← hgw]; exact HB.out.2.1.size)))
    have HR1 := Lib.hid (And.intro (HB.out.1.beyond hb1) (And.intro (HB.out.2.2.below hb1) hU))
    obtain ⟨m, hm⟩ : ∃ m, m = l.length := ⟨_, rfl⟩
    rw [← hm] at hlen ⊢
    have HM := Lib.hid hm
    clear hb1 hsome hU hrow ho hm
    go_wp2
    go_loopg [25] len (fun gh i wx => ∃ k : Nat, k ≤ len ∧ i = .int .i64 (k : Int) ∧ gh = len - k ∧ Hid ((List.range k).any (fun r => matchB n l (Z r)) = false ∧ Below w1.heap.size w1 wx))
    case atStart => exact ⟨0, Nat.zero_le _, rfl, rfl, rfl, Below.refl _ _⟩
    case round =>
      obtain ⟨k, hk, rfl, hg, HK⟩ := hrel
      have HG := Lib.hid hg
      clear hg
      by_cases hlt : k < len
      · obtain ⟨b, o2, rfl, hc, hrow⟩ := (HR1.out.2.1.below HK.out.2) k hlt
        have hany := any_range_succ (fun r => matchB n l (Z r)) k
        rw [HK.out.1, Bool.false_or] at hany
        have HANY := Lib.hid hany
        have PR := Lib.hid (rval n m (A k) (C k) (Z k) wr hlen hrow)
        have hmB : matchB n l (Z k) = (decide (0 < (Z k).length) && decide (itemV n m (Z k) ∈ l)) := by unfold matchB; rw [HM.out]
        have HMB := Lib.hid hmB
        have hbx := HR1.out.1.beyond HK.out.2
        clear hrow hany hmB
        generalize itemV n m (Z k) = V at *
        obtain ⟨z, hz⟩ : ∃ z, z = (Z k).length := ⟨_, rfl⟩
        rw [← hz] at hc PR HMB
        clear hz
        by_cases hz0 : z = 0
        · subst hz0
          have HNX : Hid (matchB n l (Z k) = false) := Lib.hid (by rw [HMB.out]; simp)
          go_wp2
          go_roundg (len - (k + 1))
          case measure => rw [HG.out]; omega
          case rel => exact ⟨k + 1, hlt, rfl, rfl, by rw [HANY.out]; exact HNX.out, HK.out.2⟩
        · have z1 : ¬ ((z : Int) = 0) := by omega
          have z2 : ((z : Int) == 0) = false := by rw [beq_eq_false_iff_ne]; omega
          have hmB : matchB n l (Z k) = decide (V ∈ l) := by rw [HMB.out, decide_eq_true (show 0 < z from by omega), Bool.true_and]
          have HMB2 := Lib.hid hmB
          clear hmB HMB
          by_cases hm0 : m = 0
          · subst hm0
            have HNX : Hid (matchB n l (Z k) = false) := Lib.hid (by rw [HMB2.out, List.eq_nil_of_length_eq_zero HM.out.symm]; simp)
            go_wp2
            go_roundg (len - (k + 1))
            case measure => rw [HG.out]; omega
            case rel => exact ⟨k + 1, hlt, rfl, rfl, by rw [HANY.out]; exact HNX.out, HK.out.2⟩
          · have m1 : ¬ ((m : Int) = 0) := by omega
            have m2 : ((m : Int) == 0) = false := by rw [beq_eq_false_iff_ne]; omega
            go_wp2_with (refine wpl_load rfl 23 (.tmp 3) rfl rfl hbx Try.underlying23 (by rw [hcs_size]; kernel_rfl) ?_)
            refine PR.out.mono ?_
            rintro e w3 ⟨rfl, hb3⟩
            have K3 := Lib.hid (HK.out.2.trans (hb3.mono HK.out.2.size))
            have HU3 := Lib.hid (HR1.out.2.2.below K3.out)
            clear hb3 hbx hc
            go_wp2
            go_loopg [44] m (fun gh i wx => ∃ j : Nat, j ≤ m ∧ i = .int .i64 (j : Int) ∧ gh = m - j ∧ Hid (∀ i, i < j → l.getD i 0 ≠ V) ∧ wx = w3)
            case atStart => exact ⟨0, Nat.zero_le _, rfl, rfl, fun i hi => by omega, rfl⟩
            case round =>
              obtain ⟨j, hj, rfl, hg2, HJ, hwx⟩ := hrel
              obtain rfl : w3 = wr := hwx.symm
              have HG2 := Lib.hid hg2
              clear hg2
              by_cases hlt2 : j < m
              · obtain ⟨g, rfl, hcl⟩ := HU3.out j (by rw [← HM.out]; exact hlt2)
                obtain ⟨y, hy⟩ : ∃ y, y = l.getD j 0 := ⟨_, rfl⟩
                rw [← hy] at hcl
                have HY := Lib.hid hy
                clear hy
                by_cases hyv : y = V
                · subst hyv
                  have hall : (List.range len).any (fun r => matchB n l (Z r)) = true := by
                    rw [List.any_eq_true]
                    exact ⟨k, List.mem_range.2 hlt, by rw [HMB2.out, HY.out]; exact decide_eq_true (mem_getD (by rw [← HM.out]; exact hlt2))⟩
                  have HALL := Lib.hid hall
                  clear hall
                  have KF := Lib.hid (K1.out.trans (K3.out.mono (by rw [← hgw]; exact K1.out.size)))
                  go_wp2
                  exact bodyPost_ret (results_tmp2 Try.results30 _ _ _) rfl ⟨by rw [HE.out, HALL.out]; rfl, by first | exact KF.out | (rw [hgw]; exact KF.out)⟩
                · have hne : ¬ ((V : Int) = (y : Int)) := by omega
                  have hne2 : ((V : Int) == (y : Int)) = false := by rw [beq_eq_false_iff_ne]; omega
                  have HNE := Lib.hid hyv
                  clear hyv
                  go_wp2
                  go_roundg (m - (j + 1))
                  case measure => rw [HG2.out]; omega
                  case rel => exact ⟨j + 1, hlt2, rfl, rfl, fun i hi => by
                    rcases Nat.lt_or_ge i j with h | h
                    · exact HJ.out i h
                    · obtain rfl : i = j := by omega
                      rw [← HY.out]; exact HNE.out, rfl⟩
              · obtain rfl : j = m := by omega
                have HNX : Hid (matchB n l (Z k) = false) := Lib.hid (by rw [HMB2.out]; exact decide_eq_false (not_mem_getD (by rw [← HM.out]; exact HJ.out)))
                go_wp2
                go_roundg (len - (k + 1))
                case measure => rw [HG.out]; omega
                case rel => exact ⟨k + 1, hlt, rfl, rfl, by rw [HANY.out]; exact HNX.out, K3.out⟩
      · obtain rfl : k = len := by omega
        have KF := Lib.hid (K1.out.trans (HK.out.2.mono (by rw [← hgw]; exact K1.out.size)))
        go_wp2
        exact bodyPost_ret (results_tmp2 Try.results30 _ _ _) rfl ⟨by rw [HE.out, HK.out.1]; rfl, by first | exact KF.out | (rw [hgw]; exact KF.out)⟩
/-- a list cut to so many -/
theorem matchE_form (n : Nat) (bs : List Int) (len : Nat) (Z : Nat → List Int) : ∃ (b : Bool) (e : Int), matchE n bs len Z = .returned (.tuple #[.bool b, .int .i64 e]) := by
  cases h : valuesS bs with
  | none => exact ⟨_, _, matchE_none h⟩
  | some l => exact ⟨_, _, matchE_some h⟩
set_option maxHeartbeats 3200000 in
theorem matches_walk (n : Nat) (q : Option Addr) (c : Nat) (bs : List Int) (a0 : Option Addr) (len cap : Nat) (A : Nat → Option Addr) (C : Nat → Nat) (Z : Nat → List Int) (w : World)
    (hy : Lib.BytesIn w q bs.length bs) (hl47 : bs.length ≤ 140737488351232) (hc : bs.length ≤ c) (hr : ∀ y ∈ bs, 0 ≤ y ∧ y ≤ 255) (hz : q = none → c = 0) (hcm : c ≤ 140737488351232)
    (hl : len ≤ 9223372036854775807) (hlc : len ≤ cap) (hcap : cap ≤ 9223372036854775807) (hR : RowsIn w a0 len A C Z) :
    Calls Try.prog 8 #[hv n, .slice q bs.length c, .slice a0 len cap] w fun e w' => e = .returned (.bool true) ∧ Below w.heap.size w w' := by
  have B0 := Blk.new w (hcs n) 23
  have K0 := (Below.refl w.heap.size w).alloc (Nat.le_refl _) (.cells (hcs n) 23)
  obtain ⟨L, hL⟩ : ∃ L, L = min len 60 := ⟨_, rfl⟩
  have hLl : L ≤ len := by omega
  have hmin : min (len : Int) 60 = (L : Int) := by omega
  have hLi : (L : Int) ≤ (cap : Int) := by omega
  have hLn : L ≤ cap := by omega
  have hRL := hR.less hLl
  have PM := Lib.hid (fun (wx : World) (hb : Below w.heap.size w wx) => pmatch n bs q c a0 L cap A C Z wx (bytes_keep hy (Keep.of_below (X := fun _ => False) hb) (fun _ _ _ h => h)) hr hc (by omega) (by omega) (hRL.below hb) (by omega))
  have PR := Lib.hid (fun (wx : World) (hb : Below w.heap.size w wx) => rmatch n bs q c a0 L cap A C Z wx (bytes_keep hy (Keep.of_below (X := fun _ => False) hb) (fun _ _ _ h => h)) hr hc (by omega) (by omega) (hRL.below hb) (by omega))
  have PA := Lib.hid (fun (wx : World) => awake_true wx)
  obtain ⟨b, er, hE⟩ := matchE_form n bs L Z
  rw [hE] at PM PR
  have HB := Lib.hid (And.intro B0 K0)
  clear B0 K0 hy hr hE hRL hR hL hLl
  generalize bs.length = bn at *
  go_enter Try.func8, Try.ntmps8
  go_upto_region 2 with fail
  have bx := HB.out.1
  generalize w.alloc (.cells (hcs n) 23) = w0 at *
  generalize hgw : w.heap.size = hb at *
  go_wp2_with (refine wpl_load rfl 23 (.tmp 3) rfl rfl bx Try.underlying23 (by rw [hcs_size]; kernel_rfl) ?_)
  refine (PM.out _ HB.out.2).mono ?_
  rintro e w1 ⟨rfl, hb1⟩
  have b1 := bx.beyond hb1
  have K1 := Lib.hid (HB.out.2.trans (hb1.mono (by rw [← hgw]; exact HB.out.2.size)))
  clear bx hb1
  go_upto_region 3 with fail
  go_wp2_with (refine wpl_load rfl 23 (.tmp 3) rfl rfl b1 Try.underlying23 (by rw [hcs_size]; kernel_rfl) ?_)
  refine (PR.out _ K1.out).mono ?_
  rintro e w2 ⟨rfl, hb2⟩
  have K2 := Lib.hid (K1.out.trans (hb2.mono (by rw [← hgw]; exact K1.out.size)))
  clear b1 hb2
  have e1 : (er == er) = true := beq_self_eq_true _
  have e2 : (b == b) = true := beq_self_eq_true _
  go_wp2_with fail
  refine (PA.out _).mono ?_
  rintro e w3 ⟨rfl, hb3⟩
  have K3 := Lib.hid (K2.out.trans (hb3.mono (by rw [← hgw]; exact K2.out.size)))
  clear hb3
  go_wp2
  go_ret
  exact ⟨rfl, by rw [hgw]; exact K3.out⟩
end Go.Proofs.Ytppcccocnmhbgaa
