import Derived.Test.YtppcccocnmhbgaaFl19
import Derived.Test.YtppcccocnmhbgaaFl21
import Derived.Test.YtppcccocnmhbgaaFl23
import Derived.Test.YtppcccocnmhbgaaFl16
section
/- The document's Build, walked. -/
namespace Go.Proofs.Ytppcccocnmhbgaa
open Go Go.RowKit
set_option linter.unusedSimpArgs false
set_option linter.unusedVariables false
set_option maxRecDepth 100000

set_option maxHeartbeats 6400000 in
theorem rbuild (n : Nat) (a0 : Option Addr) (len cap : Nat) (A : Nat → Option Addr) (C : Nat → Nat) (Z : Nat → List Int) (w : World) (hR : RowsIn w a0 len A C Z) (hl : len ≤ 5000000000000) :
    Calls Try.prog 12 #[hv n, .slice a0 len cap] w fun e w' => Below w.heap.size w w' ∧ (20000 < len → e = .returned (.tuple #[.slice none 0 0, .int .i64 4])) ∧ (len ≤ 20000 → ∃ p c o, e = .returned (.tuple #[.slice p (buildS n (unlikeN Z len)).length c, .int .i64 0]) ∧ Row w' 5 (.slice p (buildS n (unlikeN Z len)).length c) (buildS n (unlikeN Z len)) o ∧ (∀ g, o = some g → w.heap.size ≤ g)) := by
  have B0 := Blk.new w (hcs n) 23
  have K0 := (Below.refl w.heap.size w).alloc (Nat.le_refl _) (.cells (hcs n) 23)
  have HB := Lib.hid (And.intro B0 K0)
  have PU := Lib.hid (fun (wx : World) (hb : Below w.heap.size w wx) => runlike a0 len cap A C Z wx (hR.below hb) hl)
  clear B0 K0 hR
  by_cases hbig : 20000 < len
  · have d1 : decide ((20000 : Int) < (len : Int)) = true := decide_eq_true (by omega)
    have HBIG := Lib.hid hbig
    clear hbig
    go_enter Try.func12, Try.ntmps12
    go_wp2
    exact bodyPost_ret (results_tmp2 Try.results12 _ _ _) rfl ⟨HB.out.2, fun _ => rfl, fun h => absurd HBIG.out (by omega)⟩
  · have d1 : decide ((20000 : Int) < (len : Int)) = false := decide_eq_false (by omega)
    have HBIG := Lib.hid hbig
    clear hbig
    go_enter Try.func12, Try.ntmps12
    go_upto_region 1 with fail
    generalize w.alloc (.cells (hcs n) 23) = w0 at *
    generalize hgw : w.heap.size = G at *
    go_wp2_with fail
    refine (PU.out _ (by first | exact HB.out.2 | (rw [hgw]; exact HB.out.2))).mono ?_
    rintro e w1 ⟨⟨v, rfl, hlist⟩, hb1⟩
    have hmlen := unlikeN_len Z len
    generalize hits : unlikeN Z len = its at *
    have HITS := Lib.hid hits
    clear hits
    obtain ⟨q1, c1, A1, C1, rfl, hle1, hc1, hrows⟩ := hlist.rows
    obtain ⟨m, hm⟩ : ∃ m, m = its.length := ⟨_, rfl⟩
    have hm2 : m ≤ 20000 := by have := HBIG.out; omega
    have hvl : (its.map (itemV n m)).length = m := by rw [List.length_map, hm]
    have hvg : ∀ k, k < m → (its.map (itemV n m)).getD k 0 = itemV n m (its.getD k []) := fun k hk => by
      have : k < its.length := by omega
      simp [List.getD_eq_getElem?_getD, List.getElem?_map, List.getElem?_eq_getElem this]
    have hvb : ∀ v ∈ its.map (itemV n m), v < m * 784931 := fun v hv => by
      obtain ⟨Y, hY, rfl⟩ := List.mem_map.1 hv
      exact itemV_lt' n m Y (by have := List.length_pos_of_mem hY; omega)
    have hbs : buildS n its = filterS (sortN (its.map (itemV n m))) := by unfold buildS; rw [← hm]
    rw [← hm] at hle1 hrows ⊢
    have HBS := Lib.hid (And.intro hbs hm)
    generalize its.map (itemV n m) = vals at *
    have HV := Lib.hid (And.intro hvl (And.intro hvg hvb))
    have K1 := Lib.hid (HB.out.2.trans (hb1.mono (by rw [← hgw]; exact HB.out.2.size)))
    have BX1 := Lib.hid (HB.out.1.beyond hb1)
    have HR1 := Lib.hid hrows
    have HGO := Lib.hid (show ∀ (o : Option Nat) (bs : List Int) (p : Option Addr) (c : Nat) (wx : World), bs = filterS (sortN vals) → Below G w wx → Row wx 5 (.slice p bs.length c) bs o → (∀ g, o = some g → G ≤ g) → Below G w wx ∧ (20000 < len → Ending.returned (.tuple #[.slice p bs.length c, .int .i64 0]) = .returned (.tuple #[.slice none 0 0, .int .i64 4])) ∧ (len ≤ 20000 → ∃ p' c' o', Ending.returned (.tuple #[.slice p bs.length c, .int .i64 0]) = .returned (.tuple #[.slice p' (buildS n its).length c', .int .i64 0]) ∧ Row wx 5 (.slice p' (buildS n its).length c') (buildS n its) o' ∧ (∀ g, o' = some g → G ≤ g)) from fun o bs p c wx hbs hB hRw ho => by
      rw [HBS.out.1, ← hbs]
      exact ⟨hB, fun h => absurd h HBIG.out, fun _ => ⟨p, c, o, rfl, hRw, ho⟩⟩)
    clear hb1 hlist hrows hvl hvg hvb hbs hm hmlen
    go_wp2
    go_loopg [7, 23] m (fun gh v i wx => ∃ k : Nat, k ≤ m ∧ i = .int .i64 (k : Int) ∧ gh = m - k ∧ Hid (NumsG wx w1.heap.size v (sortN (vals.take k)) ∧ Below w1.heap.size w1 wx))
    case atStart => exact ⟨0, Nat.zero_le _, rfl, rfl, NumsG.nil _ _, Below.refl _ _⟩
    case round =>
      obtain ⟨k, hk, rfl, hg, HK⟩ := hrel
      have HG := Lib.hid hg
      clear hg
      by_cases hlt : k < m
      · obtain ⟨b, off, rfl, hc, hrow⟩ := (HR1.out.below HK.out.2) k hlt
        have PR := rval n m (A1 k) (C1 k) (its.getD k []) wr hm2 hrow
        have hbx := BX1.out.beyond HK.out.2
        obtain ⟨x, hx⟩ : ∃ x, x = itemV n m (its.getD k []) := ⟨_, rfl⟩
        rw [← hx] at PR
        obtain ⟨s, hs⟩ : ∃ s, s = sortN (vals.take k) := ⟨_, rfl⟩
        have HX : Hid (sortN (vals.take (k + 1)) = insN x s) := Lib.hid (by rw [take_snocN vals k (by rw [HV.out.1]; exact hlt), sortN_snoc, HV.out.2.1 k hlt, hx, hs])
        rw [← hs] at HK
        have hsl : s.length = k := by rw [hs, sortN_length, List.length_take, HV.out.1]; omega
        have hsp : s.Pairwise (· ≤ ·) := by rw [hs]; exact sortN_sorted _
        have HS := Lib.hid (And.intro hsl hsp)
        obtain ⟨z, hz⟩ : ∃ z, z = (its.getD k []).length := ⟨_, rfl⟩
        rw [← hz] at hc PR
        have PR := Lib.hid PR
        clear hrow hx hz hs hsl hsp
        go_wp2_with (refine wpl_load rfl 23 (.tmp 2) rfl rfl hbx Try.underlying23 (by rw [hcs_size]; kernel_rfl) ?_)
        refine PR.out.mono ?_
        rintro e w3 ⟨rfl, hb3⟩
        have K3 := Lib.hid (HK.out.2.trans (hb3.mono HK.out.2.size))
        have HN3 := Lib.hid (HK.out.1.more hb3)
        clear hb3 hbx hc PR
        rcases HN3.out.form with ⟨rfl, hs0⟩ | ⟨g, c, o, hv, hcl, hcm, hgl, hU⟩
        · subst hs0
          obtain rfl : k = 0 := HS.out.1.symm
          go_wp2
          go_loopg [11] 0 (fun gh at' wx => at' = .int .i64 0 ∧ gh = 0 ∧ wx = w3)
          case atStart => exact ⟨rfl, rfl, rfl⟩
          case round =>
            obtain ⟨rfl, hg2, hwx⟩ := hrel
            obtain rfl : w3 = wr := hwx.symm
            have HJ : Hid (∀ y ∈ List.drop 0 ([] : List Nat), x < y) := Lib.hid (fun y hy => by cases hy)
            have HT : ∀ y ∈ List.take 0 ([] : List Nat), y ≤ x := fun y hy => by cases hy
            have P1 : Piece w3 none (List.take 0 ([] : List Nat)) := fun h => by cases h
            have P2 : Piece w3 none (List.drop 0 ([] : List Nat)) := fun h => by cases h
            have d0 : decide ((0 : Int) < 0) = false := rfl
            have HI := insN_at (by rw [HS.out.1]; exact Nat.le_refl _) HT HJ.out
            obtain ⟨iA, iB, iC⟩ := ins_all w3 (a := 0) (b := 0) (c1 := 0) (c2 := 0) (x := x) P1 P2 (by rw [List.length_take, HS.out.1]; omega) (by rw [List.length_drop, HS.out.1]) (by omega)
            obtain ⟨vA1, wA1, vA2, wA2, vA3, wA3, runA1, runA2, runA3, bA1, bA2, bA3, nA⟩ := iA
            have BELA1 := Lib.hid bA1
            have BELA2 := Lib.hid bA2
            have BELA3 := Lib.hid bA3
            have FINA : Hid (NumsG wA3 w1.heap.size vA3 (sortN (vals.take (0 + 1))) ∧ Below w1.heap.size w1 wA3) := Lib.hid ⟨by rw [HX.out, HI]; exact nA.less K3.out.size, K3.out.trans (bA3.mono K3.out.size)⟩
            clear bA1 bA2 bA3 nA
            obtain ⟨vB1, wB1, vB2, wB2, vB3, wB3, runB1, runB2, runB3, bB1, bB2, bB3, nB⟩ := iB
            have BELB1 := Lib.hid bB1
            have BELB2 := Lib.hid bB2
            have BELB3 := Lib.hid bB3
            have FINB : Hid (NumsG wB3 w1.heap.size vB3 (sortN (vals.take (0 + 1))) ∧ Below w1.heap.size w1 wB3) := Lib.hid ⟨by rw [HX.out, HI]; exact nB.less K3.out.size, K3.out.trans (bB3.mono K3.out.size)⟩
            clear bB1 bB2 bB3 nB
            obtain ⟨vC1, wC1, vC2, wC2, vC3, wC3, runC1, runC2, runC3, bC1, bC2, bC3, nC⟩ := iC
            have BELC1 := Lib.hid bC1
            have BELC2 := Lib.hid bC2
            have BELC3 := Lib.hid bC3
            have FINC : Hid (NumsG wC3 w1.heap.size vC3 (sortN (vals.take (0 + 1))) ∧ Below w1.heap.size w1 wC3) := Lib.hid ⟨by rw [HX.out, HI]; exact nC.less K3.out.size, K3.out.trans (bC3.mono K3.out.size)⟩
            clear bC1 bC2 bC3 nC
            clear HI HT P1 P2
            go_upto_region 12 with fail
            refine wp_region_held_drew (S := fun w' => Below w3.heap.size w3 w') (by kernel_rfl) ((Below.refl _ _).drew) (fun hS => ?_)
            refine wpAnyH_take (i := 1) (oi := ⟨_, _, _, _, _, _⟩) (v := ?_) rfl (by kernel_rfl) (by kernel_rfl) (by kernel_rfl) (fun _ _ _ h => h) (Or.inl ⟨by rfl, ?_⟩) hS ?_
            rotate_left
            · intro w0 hs; clear hs; go_simp; try (with_reducible rfl)
            try simp only [Act.put, List.setIfInBounds_toArray, List.set_cons_zero, List.set_cons_succ]
            refine wpAnyH_take (i := 2) (oi := ⟨_, _, _, _, _, _⟩) (v := ?_) rfl (by kernel_rfl) (by kernel_rfl) (by kernel_rfl) (fun _ _ _ h => h) (Or.inl ⟨by rfl, ?_⟩) hS ?_
            rotate_left
            · intro w0 hs; clear hs; go_simp; try (with_reducible rfl)
            try simp only [Act.put, List.setIfInBounds_toArray, List.set_cons_zero, List.set_cons_succ]
            refine wpAnyH_take (i := 3) (oi := ⟨_, _, _, _, _, _⟩) (v := ?_) rfl (by kernel_rfl) (by kernel_rfl) (by kernel_rfl) (fun _ _ _ h => h) (Or.inl ⟨by rfl, ?_⟩) hS ?_
            rotate_left
            · intro w0 hs; clear hs; go_simp; try (with_reducible rfl)
            try simp only [Act.put, List.setIfInBounds_toArray, List.set_cons_zero, List.set_cons_succ]
            refine wpAnyH_take (i := 5) (oi := ⟨_, _, _, _, _, _⟩) (v := ?_) rfl (by kernel_rfl) (by kernel_rfl) (by kernel_rfl) (fun _ _ _ h => h) (Or.inl ⟨by rfl, ?_⟩) hS ?_
            rotate_left
            · intro w0 hs; clear hs; go_simp; try (with_reducible rfl)
            try simp only [Act.put, List.setIfInBounds_toArray, List.set_cons_zero, List.set_cons_succ]
            refine wpAnyH_take (i := 8) (oi := ⟨_, _, _, _, _, _⟩) (v := ?_) rfl (by kernel_rfl) (by kernel_rfl) (by kernel_rfl) (fun _ _ _ h => h) (Or.inl ⟨by rfl, ?_⟩) hS ?_
            rotate_left
            · intro w0 hs; clear hs; go_simp; try (with_reducible rfl)
            try simp only [Act.put, List.setIfInBounds_toArray, List.set_cons_zero, List.set_cons_succ]
            refine wpAnyH_take (i := 9) (oi := ⟨_, _, _, _, _, _⟩) (v := ?_) rfl (by kernel_rfl) (by kernel_rfl) (by kernel_rfl) (fun _ _ _ h => h) (Or.inl ⟨by rfl, ?_⟩) hS ?_
            rotate_left
            · intro w0 hs; clear hs; go_simp; try (with_reducible rfl)
            try simp only [Act.put, List.setIfInBounds_toArray, List.set_cons_zero, List.set_cons_succ]
            refine wpAnyH_take (i := 10) (oi := ⟨_, _, _, _, _, _⟩) (v := ?_) rfl (by kernel_rfl) (by kernel_rfl) (by kernel_rfl) (fun _ _ _ h => h) (Or.inl ⟨by rfl, ?_⟩) hS ?_
            rotate_left
            · intro w0 hs; clear hs; go_simp; try (with_reducible rfl)
            try simp only [Act.put, List.setIfInBounds_toArray, List.set_cons_zero, List.set_cons_succ]
            refine wpAnyH_ready (rs := [0, 6]) (by kernel_rfl) (by simp) ?_
            refine AllReadyH.cons (o := ⟨_, _, _, _, _, _⟩) rfl (fun K hK => ?_) (AllReadyH.cons (o := ⟨_, _, _, _, _, _⟩) rfl (fun K hK => ?_) AllReadyH.nil)
            · rw [if_pos (by rfl)]
              go_simp
              refine hK.out _ _ (hS.alloc hS.size _) (fun hS' => ?_)
              clear hS hK
              have hS := hS'; clear hS'
              try simp only [Act.put, List.setIfInBounds_toArray, List.set_cons_zero, List.set_cons_succ]
              refine wpAnyH_ready (rs := [4, 6]) (by kernel_rfl) (by simp) ?_
              refine AllReadyH.cons (o := ⟨_, _, _, _, _, _⟩) rfl (fun K hK => ?_) (AllReadyH.cons (o := ⟨_, _, _, _, _, _⟩) rfl (fun K hK => ?_) AllReadyH.nil)
              · rw [if_pos (by rfl)]
                refine wp_appI _ _ 47 rfl rfl rfl runA1 ?_
                refine hK.out _ _ BELA1.out (fun hS' => ?_)
                clear hS hK
                have hS := hS'; clear hS'
                try simp only [Act.put, List.setIfInBounds_toArray, List.set_cons_zero, List.set_cons_succ]
                refine wpAnyH_ready (rs := [6]) (by kernel_rfl) (by simp) ?_
                refine AllReadyH.cons (o := ⟨_, _, _, _, _, _⟩) rfl (fun K hK => ?_) AllReadyH.nil
                rw [if_pos (by rfl)]
                go_simp
                refine hK.out _ _ (hS.alloc hS.size _) (fun hS' => ?_)
                clear hS hK
                have hS := hS'; clear hS'
                try simp only [Act.put, List.setIfInBounds_toArray, List.set_cons_zero, List.set_cons_succ]
                refine wpAnyH_ready (rs := [7]) (by kernel_rfl) (by simp) ?_
                refine AllReadyH.cons (o := ⟨_, _, _, _, _, _⟩) rfl (fun K hK => ?_) AllReadyH.nil
                rw [if_pos (by rfl)]
                refine wp_appI _ _ 47 rfl rfl rfl runA2 ?_
                refine hK.out _ _ BELA2.out (fun hS' => ?_)
                clear hS hK
                have hS := hS'; clear hS'
                try simp only [Act.put, List.setIfInBounds_toArray, List.set_cons_zero, List.set_cons_succ]
                refine wpAnyH_ready (rs := [11]) (by kernel_rfl) (by simp) ?_
                refine AllReadyH.cons (o := ⟨_, _, _, _, _, _⟩) rfl (fun K hK => ?_) AllReadyH.nil
                rw [if_pos (by rfl)]
                refine wp_appI _ _ 47 rfl rfl rfl runA3 ?_
                refine hK.out _ _ BELA3.out (fun hS' => ?_)
                clear hS hK
                have hS := hS'; clear hS'
                try simp only [Act.put, List.setIfInBounds_toArray, List.set_cons_zero, List.set_cons_succ]
                refine wpAnyH_take (i := 12) (oi := ⟨_, _, _, _, _, _⟩) (v := ?_) rfl (by kernel_rfl) (by kernel_rfl) (by kernel_rfl) (fun _ _ _ h => h) (Or.inl ⟨by rfl, ?_⟩) hS ?_
                rotate_left
                · intro w0 hs; clear hs; go_simp; try (with_reducible rfl)
                try simp only [Act.put, List.setIfInBounds_toArray, List.set_cons_zero, List.set_cons_succ]
                refine wpAnyH_done (by kernel_rfl) ?_ _
                go_wp2
                all_goals go_roundg (m - (0 + 1))
                all_goals first | exact ⟨0 + 1, hlt, rfl, rfl, FINA.out⟩ | (rw [HG.out]; omega)
              · rw [if_pos (by rfl)]
                go_simp
                refine hK.out _ _ (hS.alloc hS.size _) (fun hS' => ?_)
                clear hS hK
                have hS := hS'; clear hS'
                try simp only [Act.put, List.setIfInBounds_toArray, List.set_cons_zero, List.set_cons_succ]
                refine wpAnyH_ready (rs := [4]) (by kernel_rfl) (by simp) ?_
                refine AllReadyH.cons (o := ⟨_, _, _, _, _, _⟩) rfl (fun K hK => ?_) AllReadyH.nil
                rw [if_pos (by rfl)]
                refine wp_appI _ _ 47 rfl rfl rfl runB1 ?_
                refine hK.out _ _ BELB1.out (fun hS' => ?_)
                clear hS hK
                have hS := hS'; clear hS'
                try simp only [Act.put, List.setIfInBounds_toArray, List.set_cons_zero, List.set_cons_succ]
                refine wpAnyH_ready (rs := [7]) (by kernel_rfl) (by simp) ?_
                refine AllReadyH.cons (o := ⟨_, _, _, _, _, _⟩) rfl (fun K hK => ?_) AllReadyH.nil
                rw [if_pos (by rfl)]
                refine wp_appI _ _ 47 rfl rfl rfl runB2 ?_
                refine hK.out _ _ BELB2.out (fun hS' => ?_)
                clear hS hK
                have hS := hS'; clear hS'
                try simp only [Act.put, List.setIfInBounds_toArray, List.set_cons_zero, List.set_cons_succ]
                refine wpAnyH_ready (rs := [11]) (by kernel_rfl) (by simp) ?_
                refine AllReadyH.cons (o := ⟨_, _, _, _, _, _⟩) rfl (fun K hK => ?_) AllReadyH.nil
                rw [if_pos (by rfl)]
                refine wp_appI _ _ 47 rfl rfl rfl runB3 ?_
                refine hK.out _ _ BELB3.out (fun hS' => ?_)
                clear hS hK
                have hS := hS'; clear hS'
                try simp only [Act.put, List.setIfInBounds_toArray, List.set_cons_zero, List.set_cons_succ]
                refine wpAnyH_take (i := 12) (oi := ⟨_, _, _, _, _, _⟩) (v := ?_) rfl (by kernel_rfl) (by kernel_rfl) (by kernel_rfl) (fun _ _ _ h => h) (Or.inl ⟨by rfl, ?_⟩) hS ?_
                rotate_left
                · intro w0 hs; clear hs; go_simp; try (with_reducible rfl)
                try simp only [Act.put, List.setIfInBounds_toArray, List.set_cons_zero, List.set_cons_succ]
                refine wpAnyH_done (by kernel_rfl) ?_ _
                go_wp2
                all_goals go_roundg (m - (0 + 1))
                all_goals first | exact ⟨0 + 1, hlt, rfl, rfl, FINB.out⟩ | (rw [HG.out]; omega)
            · rw [if_pos (by rfl)]
              go_simp
              refine hK.out _ _ (hS.alloc hS.size _) (fun hS' => ?_)
              clear hS hK
              have hS := hS'; clear hS'
              try simp only [Act.put, List.setIfInBounds_toArray, List.set_cons_zero, List.set_cons_succ]
              refine wpAnyH_ready (rs := [0]) (by kernel_rfl) (by simp) ?_
              refine AllReadyH.cons (o := ⟨_, _, _, _, _, _⟩) rfl (fun K hK => ?_) AllReadyH.nil
              rw [if_pos (by rfl)]
              go_simp
              refine hK.out _ _ (hS.alloc hS.size _) (fun hS' => ?_)
              clear hS hK
              have hS := hS'; clear hS'
              try simp only [Act.put, List.setIfInBounds_toArray, List.set_cons_zero, List.set_cons_succ]
              refine wpAnyH_ready (rs := [4]) (by kernel_rfl) (by simp) ?_
              refine AllReadyH.cons (o := ⟨_, _, _, _, _, _⟩) rfl (fun K hK => ?_) AllReadyH.nil
              rw [if_pos (by rfl)]
              refine wp_appI _ _ 47 rfl rfl rfl runC1 ?_
              refine hK.out _ _ BELC1.out (fun hS' => ?_)
              clear hS hK
              have hS := hS'; clear hS'
              try simp only [Act.put, List.setIfInBounds_toArray, List.set_cons_zero, List.set_cons_succ]
              refine wpAnyH_ready (rs := [7]) (by kernel_rfl) (by simp) ?_
              refine AllReadyH.cons (o := ⟨_, _, _, _, _, _⟩) rfl (fun K hK => ?_) AllReadyH.nil
              rw [if_pos (by rfl)]
              refine wp_appI _ _ 47 rfl rfl rfl runC2 ?_
              refine hK.out _ _ BELC2.out (fun hS' => ?_)
              clear hS hK
              have hS := hS'; clear hS'
              try simp only [Act.put, List.setIfInBounds_toArray, List.set_cons_zero, List.set_cons_succ]
              refine wpAnyH_ready (rs := [11]) (by kernel_rfl) (by simp) ?_
              refine AllReadyH.cons (o := ⟨_, _, _, _, _, _⟩) rfl (fun K hK => ?_) AllReadyH.nil
              rw [if_pos (by rfl)]
              refine wp_appI _ _ 47 rfl rfl rfl runC3 ?_
              refine hK.out _ _ BELC3.out (fun hS' => ?_)
              clear hS hK
              have hS := hS'; clear hS'
              try simp only [Act.put, List.setIfInBounds_toArray, List.set_cons_zero, List.set_cons_succ]
              refine wpAnyH_take (i := 12) (oi := ⟨_, _, _, _, _, _⟩) (v := ?_) rfl (by kernel_rfl) (by kernel_rfl) (by kernel_rfl) (fun _ _ _ h => h) (Or.inl ⟨by rfl, ?_⟩) hS ?_
              rotate_left
              · intro w0 hs; clear hs; go_simp; try (with_reducible rfl)
              try simp only [Act.put, List.setIfInBounds_toArray, List.set_cons_zero, List.set_cons_succ]
              refine wpAnyH_done (by kernel_rfl) ?_ _
              go_wp2
              all_goals go_roundg (m - (0 + 1))
              all_goals first | exact ⟨0 + 1, hlt, rfl, rfl, FINC.out⟩ | (rw [HG.out]; omega)
        · rw [HS.out.1] at hv hcl
          subst hv
          have HUU := Lib.hid hU
          have hcm2 : c ≤ 9223372036854775807 := hcm
          clear hU hcm
          go_wp2
          go_loopg [11] k (fun gh at' wx => ∃ j : Nat, j ≤ k ∧ at' = .int .i64 (j : Int) ∧ gh = j ∧ Hid (∀ y ∈ s.drop j, x < y) ∧ wx = w3)
          case atStart => exact ⟨k, Nat.le_refl _, rfl, rfl, (fun y hy => by rw [List.drop_of_length_le (by rw [HS.out.1]; exact Nat.le_refl _)] at hy; cases hy), rfl⟩
          case round =>
            obtain ⟨j, hj, rfl, hg2, HJ, hwx⟩ := hrel
            obtain rfl : w3 = wr := hwx.symm
            have HG2 := Lib.hid hg2
            clear hg2
            by_cases hj0 : 0 < j
            · obtain ⟨i, rfl⟩ : ∃ i, j = i + 1 := ⟨j - 1, by omega⟩
              have d0 : decide ((0 : Int) < (i : Int) + 1) = true := decide_eq_true (by omega)
              have hcl2 := HUU.out.cell i (by rw [HS.out.1]; omega)
              have hdc := drop_consN s i (by rw [HS.out.1]; omega)
              obtain ⟨y, hy⟩ : ∃ y, y = s.getD i 0 := ⟨_, rfl⟩
              rw [← hy] at hcl2 hdc
              have HDC := Lib.hid hdc
              have HY := Lib.hid hy
              clear hdc hy
              by_cases hxy : x < y
              · have d1 : decide ((x : Int) < (y : Int)) = true := decide_eq_true (by omega)
                have HXY := Lib.hid hxy
                clear hxy
                go_wp2
                go_roundg i
                case measure => rw [HG2.out]; omega
                case rel => exact ⟨i, by omega, rfl, rfl, (fun a ha => by
                  rw [HDC.out] at ha
                  rcases List.mem_cons.1 ha with rfl | ha
                  · exact HXY.out
                  · exact HJ.out a ha), rfl⟩
              · have d1 : decide ((x : Int) < (y : Int)) = false := decide_eq_false (by omega)
                have HT := take_le (v := x) (k := i + 1) HS.out.2 (by rw [HS.out.1]; omega) (.inr (by rw [Nat.add_sub_cancel, ← HY.out]; omega))
                have P1 := HUU.out.ptake (i + 1)
                have P2 : Piece w3 (if c = i + 1 then some ⟨g, 0, none⟩ else some ⟨g, i + 1, none⟩) (s.drop (i + 1)) := by
                  by_cases hci : c = i + 1
                  · intro h0; rw [List.length_drop, HS.out.1] at h0; omega
                  · rw [if_neg hci]; exact HUU.out.pdrop (i + 1)
                have q0 : (0 : Int) ≤ (i : Int) + 1 := by omega
                have q1 : (i : Int) + 1 ≤ (c : Int) := by omega
                have q2 : (i : Int) + 1 ≤ (k : Int) := by omega
                have HI := insN_at (by rw [HS.out.1]; exact hj) HT HJ.out
                obtain ⟨iA, iB, iC⟩ := ins_all w3 (a := (i + 1)) (b := (k - (i + 1))) (c1 := c) (c2 := (c - (i + 1))) (x := x) P1 P2 (by rw [List.length_take, HS.out.1]; omega) (by rw [List.length_drop, HS.out.1]) (by omega)
                obtain ⟨vA1, wA1, vA2, wA2, vA3, wA3, runA1, runA2, runA3, bA1, bA2, bA3, nA⟩ := iA
                have BELA1 := Lib.hid bA1
                have BELA2 := Lib.hid bA2
                have BELA3 := Lib.hid bA3
                have FINA : Hid (NumsG wA3 w1.heap.size vA3 (sortN (vals.take (k + 1))) ∧ Below w1.heap.size w1 wA3) := Lib.hid ⟨by rw [HX.out, HI]; exact nA.less K3.out.size, K3.out.trans (bA3.mono K3.out.size)⟩
                clear bA1 bA2 bA3 nA
                obtain ⟨vB1, wB1, vB2, wB2, vB3, wB3, runB1, runB2, runB3, bB1, bB2, bB3, nB⟩ := iB
                have BELB1 := Lib.hid bB1
                have BELB2 := Lib.hid bB2
                have BELB3 := Lib.hid bB3
                have FINB : Hid (NumsG wB3 w1.heap.size vB3 (sortN (vals.take (k + 1))) ∧ Below w1.heap.size w1 wB3) := Lib.hid ⟨by rw [HX.out, HI]; exact nB.less K3.out.size, K3.out.trans (bB3.mono K3.out.size)⟩
                clear bB1 bB2 bB3 nB
                obtain ⟨vC1, wC1, vC2, wC2, vC3, wC3, runC1, runC2, runC3, bC1, bC2, bC3, nC⟩ := iC
                have BELC1 := Lib.hid bC1
                have BELC2 := Lib.hid bC2
                have BELC3 := Lib.hid bC3
                have FINC : Hid (NumsG wC3 w1.heap.size vC3 (sortN (vals.take (k + 1))) ∧ Below w1.heap.size w1 wC3) := Lib.hid ⟨by rw [HX.out, HI]; exact nC.less K3.out.size, K3.out.trans (bC3.mono K3.out.size)⟩
                clear bC1 bC2 bC3 nC
                clear HI HT P1 P2
                go_upto_region 12 with fail
                refine wp_region_held_drew (S := fun w' => Below w3.heap.size w3 w') (by kernel_rfl) ((Below.refl _ _).drew) (fun hS => ?_)
                refine wpAnyH_take (i := 1) (oi := ⟨_, _, _, _, _, _⟩) (v := ?_) rfl (by kernel_rfl) (by kernel_rfl) (by kernel_rfl) (fun _ _ _ h => h) (Or.inl ⟨by rfl, ?_⟩) hS ?_
                rotate_left
                · intro w0 hs; clear hs; go_simp; try (with_reducible rfl)
                try simp only [Act.put, List.setIfInBounds_toArray, List.set_cons_zero, List.set_cons_succ]
                refine wpAnyH_take (i := 2) (oi := ⟨_, _, _, _, _, _⟩) (v := ?_) rfl (by kernel_rfl) (by kernel_rfl) (by kernel_rfl) (fun _ _ _ h => h) (Or.inl ⟨by rfl, ?_⟩) hS ?_
                rotate_left
                · intro w0 hs; clear hs; go_simp; try (with_reducible rfl)
                try simp only [Act.put, List.setIfInBounds_toArray, List.set_cons_zero, List.set_cons_succ]
                refine wpAnyH_take (i := 3) (oi := ⟨_, _, _, _, _, _⟩) (v := ?_) rfl (by kernel_rfl) (by kernel_rfl) (by kernel_rfl) (fun _ _ _ h => h) (Or.inl ⟨by rfl, ?_⟩) hS ?_
                rotate_left
                · intro w0 hs; clear hs; go_simp; try (with_reducible rfl)
                try simp only [Act.put, List.setIfInBounds_toArray, List.set_cons_zero, List.set_cons_succ]
                refine wpAnyH_take (i := 5) (oi := ⟨_, _, _, _, _, _⟩) (v := ?_) rfl (by kernel_rfl) (by kernel_rfl) (by kernel_rfl) (fun _ _ _ h => h) (Or.inl ⟨by rfl, ?_⟩) hS ?_
                rotate_left
                · intro w0 hs; clear hs; go_simp; try (with_reducible rfl)
                try simp only [Act.put, List.setIfInBounds_toArray, List.set_cons_zero, List.set_cons_succ]
                refine wpAnyH_take (i := 8) (oi := ⟨_, _, _, _, _, _⟩) (v := ?_) rfl (by kernel_rfl) (by kernel_rfl) (by kernel_rfl) (fun _ _ _ h => h) (Or.inl ⟨by rfl, ?_⟩) hS ?_
                rotate_left
                · intro w0 hs; clear hs; go_simp; try (with_reducible rfl)
                try simp only [Act.put, List.setIfInBounds_toArray, List.set_cons_zero, List.set_cons_succ]
                refine wpAnyH_take (i := 9) (oi := ⟨_, _, _, _, _, _⟩) (v := ?_) rfl (by kernel_rfl) (by kernel_rfl) (by kernel_rfl) (fun _ _ _ h => h) (Or.inl ⟨by rfl, ?_⟩) hS ?_
                rotate_left
                · intro w0 hs; clear hs; go_simp; try (with_reducible rfl)
                try simp only [Act.put, List.setIfInBounds_toArray, List.set_cons_zero, List.set_cons_succ]
                refine wpAnyH_take (i := 10) (oi := ⟨_, _, _, _, _, _⟩) (v := ?_) rfl (by kernel_rfl) (by kernel_rfl) (by kernel_rfl) (fun _ _ _ h => h) (Or.inl ⟨by rfl, ?_⟩) hS ?_
                rotate_left
                · intro w0 hs; clear hs; go_simp; try (with_reducible rfl)
                try simp only [Act.put, List.setIfInBounds_toArray, List.set_cons_zero, List.set_cons_succ]
                refine wpAnyH_ready (rs := [0, 6]) (by kernel_rfl) (by simp) ?_
                refine AllReadyH.cons (o := ⟨_, _, _, _, _, _⟩) rfl (fun K hK => ?_) (AllReadyH.cons (o := ⟨_, _, _, _, _, _⟩) rfl (fun K hK => ?_) AllReadyH.nil)
                · rw [if_pos (by rfl)]
                  go_simp
                  refine hK.out _ _ (hS.alloc hS.size _) (fun hS' => ?_)
                  clear hS hK
                  have hS := hS'; clear hS'
                  try simp only [Act.put, List.setIfInBounds_toArray, List.set_cons_zero, List.set_cons_succ]
                  refine wpAnyH_ready (rs := [4, 6]) (by kernel_rfl) (by simp) ?_
                  refine AllReadyH.cons (o := ⟨_, _, _, _, _, _⟩) rfl (fun K hK => ?_) (AllReadyH.cons (o := ⟨_, _, _, _, _, _⟩) rfl (fun K hK => ?_) AllReadyH.nil)
                  · rw [if_pos (by rfl)]
                    refine wp_appI _ _ 47 rfl rfl rfl runA1 ?_
                    refine hK.out _ _ BELA1.out (fun hS' => ?_)
                    clear hS hK
                    have hS := hS'; clear hS'
                    try simp only [Act.put, List.setIfInBounds_toArray, List.set_cons_zero, List.set_cons_succ]
                    refine wpAnyH_ready (rs := [6]) (by kernel_rfl) (by simp) ?_
                    refine AllReadyH.cons (o := ⟨_, _, _, _, _, _⟩) rfl (fun K hK => ?_) AllReadyH.nil
                    rw [if_pos (by rfl)]
                    go_simp
                    refine hK.out _ _ (hS.alloc hS.size _) (fun hS' => ?_)
                    clear hS hK
                    have hS := hS'; clear hS'
                    try simp only [Act.put, List.setIfInBounds_toArray, List.set_cons_zero, List.set_cons_succ]
                    refine wpAnyH_ready (rs := [7]) (by kernel_rfl) (by simp) ?_
                    refine AllReadyH.cons (o := ⟨_, _, _, _, _, _⟩) rfl (fun K hK => ?_) AllReadyH.nil
                    rw [if_pos (by rfl)]
                    refine wp_appI _ _ 47 rfl rfl rfl runA2 ?_
                    refine hK.out _ _ BELA2.out (fun hS' => ?_)
                    clear hS hK
                    have hS := hS'; clear hS'
                    try simp only [Act.put, List.setIfInBounds_toArray, List.set_cons_zero, List.set_cons_succ]
                    refine wpAnyH_ready (rs := [11]) (by kernel_rfl) (by simp) ?_
                    refine AllReadyH.cons (o := ⟨_, _, _, _, _, _⟩) rfl (fun K hK => ?_) AllReadyH.nil
                    rw [if_pos (by rfl)]
                    refine wp_appI _ _ 47 rfl rfl rfl runA3 ?_
                    refine hK.out _ _ BELA3.out (fun hS' => ?_)
                    clear hS hK
                    have hS := hS'; clear hS'
                    try simp only [Act.put, List.setIfInBounds_toArray, List.set_cons_zero, List.set_cons_succ]
                    refine wpAnyH_take (i := 12) (oi := ⟨_, _, _, _, _, _⟩) (v := ?_) rfl (by kernel_rfl) (by kernel_rfl) (by kernel_rfl) (fun _ _ _ h => h) (Or.inl ⟨by rfl, ?_⟩) hS ?_
                    rotate_left
                    · intro w0 hs; clear hs; go_simp; try (with_reducible rfl)
                    try simp only [Act.put, List.setIfInBounds_toArray, List.set_cons_zero, List.set_cons_succ]
                    refine wpAnyH_done (by kernel_rfl) ?_ _
                    go_wp2
                    all_goals go_roundg (m - (k + 1))
                    all_goals first | exact ⟨k + 1, hlt, rfl, rfl, FINA.out⟩ | (rw [HG.out]; omega)
                  · rw [if_pos (by rfl)]
                    go_simp
                    refine hK.out _ _ (hS.alloc hS.size _) (fun hS' => ?_)
                    clear hS hK
                    have hS := hS'; clear hS'
                    try simp only [Act.put, List.setIfInBounds_toArray, List.set_cons_zero, List.set_cons_succ]
                    refine wpAnyH_ready (rs := [4]) (by kernel_rfl) (by simp) ?_
                    refine AllReadyH.cons (o := ⟨_, _, _, _, _, _⟩) rfl (fun K hK => ?_) AllReadyH.nil
                    rw [if_pos (by rfl)]
                    refine wp_appI _ _ 47 rfl rfl rfl runB1 ?_
                    refine hK.out _ _ BELB1.out (fun hS' => ?_)
                    clear hS hK
                    have hS := hS'; clear hS'
                    try simp only [Act.put, List.setIfInBounds_toArray, List.set_cons_zero, List.set_cons_succ]
                    refine wpAnyH_ready (rs := [7]) (by kernel_rfl) (by simp) ?_
                    refine AllReadyH.cons (o := ⟨_, _, _, _, _, _⟩) rfl (fun K hK => ?_) AllReadyH.nil
                    rw [if_pos (by rfl)]
                    refine wp_appI _ _ 47 rfl rfl rfl runB2 ?_
                    refine hK.out _ _ BELB2.out (fun hS' => ?_)
                    clear hS hK
                    have hS := hS'; clear hS'
                    try simp only [Act.put, List.setIfInBounds_toArray, List.set_cons_zero, List.set_cons_succ]
                    refine wpAnyH_ready (rs := [11]) (by kernel_rfl) (by simp) ?_
                    refine AllReadyH.cons (o := ⟨_, _, _, _, _, _⟩) rfl (fun K hK => ?_) AllReadyH.nil
                    rw [if_pos (by rfl)]
                    refine wp_appI _ _ 47 rfl rfl rfl runB3 ?_
                    refine hK.out _ _ BELB3.out (fun hS' => ?_)
                    clear hS hK
                    have hS := hS'; clear hS'
                    try simp only [Act.put, List.setIfInBounds_toArray, List.set_cons_zero, List.set_cons_succ]
                    refine wpAnyH_take (i := 12) (oi := ⟨_, _, _, _, _, _⟩) (v := ?_) rfl (by kernel_rfl) (by kernel_rfl) (by kernel_rfl) (fun _ _ _ h => h) (Or.inl ⟨by rfl, ?_⟩) hS ?_
                    rotate_left
                    · intro w0 hs; clear hs; go_simp; try (with_reducible rfl)
                    try simp only [Act.put, List.setIfInBounds_toArray, List.set_cons_zero, List.set_cons_succ]
                    refine wpAnyH_done (by kernel_rfl) ?_ _
                    go_wp2
                    all_goals go_roundg (m - (k + 1))
                    all_goals first | exact ⟨k + 1, hlt, rfl, rfl, FINB.out⟩ | (rw [HG.out]; omega)
                · rw [if_pos (by rfl)]
                  go_simp
                  refine hK.out _ _ (hS.alloc hS.size _) (fun hS' => ?_)
                  clear hS hK
                  have hS := hS'; clear hS'
                  try simp only [Act.put, List.setIfInBounds_toArray, List.set_cons_zero, List.set_cons_succ]
                  refine wpAnyH_ready (rs := [0]) (by kernel_rfl) (by simp) ?_
                  refine AllReadyH.cons (o := ⟨_, _, _, _, _, _⟩) rfl (fun K hK => ?_) AllReadyH.nil
                  rw [if_pos (by rfl)]
                  go_simp
                  refine hK.out _ _ (hS.alloc hS.size _) (fun hS' => ?_)
                  clear hS hK
                  have hS := hS'; clear hS'
                  try simp only [Act.put, List.setIfInBounds_toArray, List.set_cons_zero, List.set_cons_succ]
                  refine wpAnyH_ready (rs := [4]) (by kernel_rfl) (by simp) ?_
                  refine AllReadyH.cons (o := ⟨_, _, _, _, _, _⟩) rfl (fun K hK => ?_) AllReadyH.nil
                  rw [if_pos (by rfl)]
                  refine wp_appI _ _ 47 rfl rfl rfl runC1 ?_
                  refine hK.out _ _ BELC1.out (fun hS' => ?_)
                  clear hS hK
                  have hS := hS'; clear hS'
                  try simp only [Act.put, List.setIfInBounds_toArray, List.set_cons_zero, List.set_cons_succ]
                  refine wpAnyH_ready (rs := [7]) (by kernel_rfl) (by simp) ?_
                  refine AllReadyH.cons (o := ⟨_, _, _, _, _, _⟩) rfl (fun K hK => ?_) AllReadyH.nil
                  rw [if_pos (by rfl)]
                  refine wp_appI _ _ 47 rfl rfl rfl runC2 ?_
                  refine hK.out _ _ BELC2.out (fun hS' => ?_)
                  clear hS hK
                  have hS := hS'; clear hS'
                  try simp only [Act.put, List.setIfInBounds_toArray, List.set_cons_zero, List.set_cons_succ]
                  refine wpAnyH_ready (rs := [11]) (by kernel_rfl) (by simp) ?_
                  refine AllReadyH.cons (o := ⟨_, _, _, _, _, _⟩) rfl (fun K hK => ?_) AllReadyH.nil
                  rw [if_pos (by rfl)]
                  refine wp_appI _ _ 47 rfl rfl rfl runC3 ?_
                  refine hK.out _ _ BELC3.out (fun hS' => ?_)
                  clear hS hK
                  have hS := hS'; clear hS'
                  try simp only [Act.put, List.setIfInBounds_toArray, List.set_cons_zero, List.set_cons_succ]
                  refine wpAnyH_take (i := 12) (oi := ⟨_, _, _, _, _, _⟩) (v := ?_) rfl (by kernel_rfl) (by kernel_rfl) (by kernel_rfl) (fun _ _ _ h => h) (Or.inl ⟨by rfl, ?_⟩) hS ?_
                  rotate_left
                  · intro w0 hs; clear hs; go_simp; try (with_reducible rfl)
                  try simp only [Act.put, List.setIfInBounds_toArray, List.set_cons_zero, List.set_cons_succ]
                  refine wpAnyH_done (by kernel_rfl) ?_ _
                  go_wp2
                  all_goals go_roundg (m - (k + 1))
                  all_goals first | exact ⟨k + 1, hlt, rfl, rfl, FINC.out⟩ | (rw [HG.out]; omega)
            · obtain rfl : j = 0 := by omega
              have d0 : decide ((0 : Int) < 0) = false := rfl
              have HT : ∀ y ∈ s.take 0, y ≤ x := fun y hy => by cases hy
              have P1 := HUU.out.ptake 0
              have P2 := HUU.out.pdrop 0
              have HI := insN_at (by rw [HS.out.1]; exact hj) HT HJ.out
              obtain ⟨iA, iB, iC⟩ := ins_all w3 (a := 0) (b := (k - 0)) (c1 := c) (c2 := (c - 0)) (x := x) P1 P2 (by rw [List.length_take, HS.out.1]; omega) (by rw [List.length_drop, HS.out.1]) (by omega)
              obtain ⟨vA1, wA1, vA2, wA2, vA3, wA3, runA1, runA2, runA3, bA1, bA2, bA3, nA⟩ := iA
              have BELA1 := Lib.hid bA1
              have BELA2 := Lib.hid bA2
              have BELA3 := Lib.hid bA3
              have FINA : Hid (NumsG wA3 w1.heap.size vA3 (sortN (vals.take (k + 1))) ∧ Below w1.heap.size w1 wA3) := Lib.hid ⟨by rw [HX.out, HI]; exact nA.less K3.out.size, K3.out.trans (bA3.mono K3.out.size)⟩
              clear bA1 bA2 bA3 nA
              obtain ⟨vB1, wB1, vB2, wB2, vB3, wB3, runB1, runB2, runB3, bB1, bB2, bB3, nB⟩ := iB
              have BELB1 := Lib.hid bB1
              have BELB2 := Lib.hid bB2
              have BELB3 := Lib.hid bB3
              have FINB : Hid (NumsG wB3 w1.heap.size vB3 (sortN (vals.take (k + 1))) ∧ Below w1.heap.size w1 wB3) := Lib.hid ⟨by rw [HX.out, HI]; exact nB.less K3.out.size, K3.out.trans (bB3.mono K3.out.size)⟩
              clear bB1 bB2 bB3 nB
              obtain ⟨vC1, wC1, vC2, wC2, vC3, wC3, runC1, runC2, runC3, bC1, bC2, bC3, nC⟩ := iC
              have BELC1 := Lib.hid bC1
              have BELC2 := Lib.hid bC2
              have BELC3 := Lib.hid bC3
              have FINC : Hid (NumsG wC3 w1.heap.size vC3 (sortN (vals.take (k + 1))) ∧ Below w1.heap.size w1 wC3) := Lib.hid ⟨by rw [HX.out, HI]; exact nC.less K3.out.size, K3.out.trans (bC3.mono K3.out.size)⟩
              clear bC1 bC2 bC3 nC
              clear HI HT P1 P2
              go_upto_region 12 with fail
              refine wp_region_held_drew (S := fun w' => Below w3.heap.size w3 w') (by kernel_rfl) ((Below.refl _ _).drew) (fun hS => ?_)
              refine wpAnyH_take (i := 1) (oi := ⟨_, _, _, _, _, _⟩) (v := ?_) rfl (by kernel_rfl) (by kernel_rfl) (by kernel_rfl) (fun _ _ _ h => h) (Or.inl ⟨by rfl, ?_⟩) hS ?_
              rotate_left
              · intro w0 hs; clear hs; go_simp; try (with_reducible rfl)
              try simp only [Act.put, List.setIfInBounds_toArray, List.set_cons_zero, List.set_cons_succ]
              refine wpAnyH_take (i := 2) (oi := ⟨_, _, _, _, _, _⟩) (v := ?_) rfl (by kernel_rfl) (by kernel_rfl) (by kernel_rfl) (fun _ _ _ h => h) (Or.inl ⟨by rfl, ?_⟩) hS ?_
              rotate_left
              · intro w0 hs; clear hs; go_simp; try (with_reducible rfl)
              try simp only [Act.put, List.setIfInBounds_toArray, List.set_cons_zero, List.set_cons_succ]
              refine wpAnyH_take (i := 3) (oi := ⟨_, _, _, _, _, _⟩) (v := ?_) rfl (by kernel_rfl) (by kernel_rfl) (by kernel_rfl) (fun _ _ _ h => h) (Or.inl ⟨by rfl, ?_⟩) hS ?_
              rotate_left
              · intro w0 hs; clear hs; go_simp; try (with_reducible rfl)
              try simp only [Act.put, List.setIfInBounds_toArray, List.set_cons_zero, List.set_cons_succ]
              refine wpAnyH_take (i := 5) (oi := ⟨_, _, _, _, _, _⟩) (v := ?_) rfl (by kernel_rfl) (by kernel_rfl) (by kernel_rfl) (fun _ _ _ h => h) (Or.inl ⟨by rfl, ?_⟩) hS ?_
              rotate_left
              · intro w0 hs; clear hs; go_simp; try (with_reducible rfl)
              try simp only [Act.put, List.setIfInBounds_toArray, List.set_cons_zero, List.set_cons_succ]
              refine wpAnyH_take (i := 8) (oi := ⟨_, _, _, _, _, _⟩) (v := ?_) rfl (by kernel_rfl) (by kernel_rfl) (by kernel_rfl) (fun _ _ _ h => h) (Or.inl ⟨by rfl, ?_⟩) hS ?_
              rotate_left
              · intro w0 hs; clear hs; go_simp; try (with_reducible rfl)
              try simp only [Act.put, List.setIfInBounds_toArray, List.set_cons_zero, List.set_cons_succ]
              refine wpAnyH_take (i := 9) (oi := ⟨_, _, _, _, _, _⟩) (v := ?_) rfl (by kernel_rfl) (by kernel_rfl) (by kernel_rfl) (fun _ _ _ h => h) (Or.inl ⟨by rfl, ?_⟩) hS ?_
              rotate_left
              · intro w0 hs; clear hs; go_simp; try (with_reducible rfl)
              try simp only [Act.put, List.setIfInBounds_toArray, List.set_cons_zero, List.set_cons_succ]
              refine wpAnyH_take (i := 10) (oi := ⟨_, _, _, _, _, _⟩) (v := ?_) rfl (by kernel_rfl) (by kernel_rfl) (by kernel_rfl) (fun _ _ _ h => h) (Or.inl ⟨by rfl, ?_⟩) hS ?_
              rotate_left
              · intro w0 hs; clear hs; go_simp; try (with_reducible rfl)
              try simp only [Act.put, List.setIfInBounds_toArray, List.set_cons_zero, List.set_cons_succ]
              refine wpAnyH_ready (rs := [0, 6]) (by kernel_rfl) (by simp) ?_
              refine AllReadyH.cons (o := ⟨_, _, _, _, _, _⟩) rfl (fun K hK => ?_) (AllReadyH.cons (o := ⟨_, _, _, _, _, _⟩) rfl (fun K hK => ?_) AllReadyH.nil)
              · rw [if_pos (by rfl)]
                go_simp
                refine hK.out _ _ (hS.alloc hS.size _) (fun hS' => ?_)
                clear hS hK
                have hS := hS'; clear hS'
                try simp only [Act.put, List.setIfInBounds_toArray, List.set_cons_zero, List.set_cons_succ]
                refine wpAnyH_ready (rs := [4, 6]) (by kernel_rfl) (by simp) ?_
                refine AllReadyH.cons (o := ⟨_, _, _, _, _, _⟩) rfl (fun K hK => ?_) (AllReadyH.cons (o := ⟨_, _, _, _, _, _⟩) rfl (fun K hK => ?_) AllReadyH.nil)
                · rw [if_pos (by rfl)]
                  refine wp_appI _ _ 47 rfl rfl rfl runA1 ?_
                  refine hK.out _ _ BELA1.out (fun hS' => ?_)
                  clear hS hK
                  have hS := hS'; clear hS'
                  try simp only [Act.put, List.setIfInBounds_toArray, List.set_cons_zero, List.set_cons_succ]
                  refine wpAnyH_ready (rs := [6]) (by kernel_rfl) (by simp) ?_
                  refine AllReadyH.cons (o := ⟨_, _, _, _, _, _⟩) rfl (fun K hK => ?_) AllReadyH.nil
                  rw [if_pos (by rfl)]
                  go_simp
                  refine hK.out _ _ (hS.alloc hS.size _) (fun hS' => ?_)
                  clear hS hK
                  have hS := hS'; clear hS'
                  try simp only [Act.put, List.setIfInBounds_toArray, List.set_cons_zero, List.set_cons_succ]
                  refine wpAnyH_ready (rs := [7]) (by kernel_rfl) (by simp) ?_
                  refine AllReadyH.cons (o := ⟨_, _, _, _, _, _⟩) rfl (fun K hK => ?_) AllReadyH.nil
                  rw [if_pos (by rfl)]
                  refine wp_appI _ _ 47 rfl rfl rfl runA2 ?_
                  refine hK.out _ _ BELA2.out (fun hS' => ?_)
                  clear hS hK
                  have hS := hS'; clear hS'
                  try simp only [Act.put, List.setIfInBounds_toArray, List.set_cons_zero, List.set_cons_succ]
                  refine wpAnyH_ready (rs := [11]) (by kernel_rfl) (by simp) ?_
                  refine AllReadyH.cons (o := ⟨_, _, _, _, _, _⟩) rfl (fun K hK => ?_) AllReadyH.nil
                  rw [if_pos (by rfl)]
                  refine wp_appI _ _ 47 rfl rfl rfl runA3 ?_
                  refine hK.out _ _ BELA3.out (fun hS' => ?_)
                  clear hS hK
                  have hS := hS'; clear hS'
                  try simp only [Act.put, List.setIfInBounds_toArray, List.set_cons_zero, List.set_cons_succ]
                  refine wpAnyH_take (i := 12) (oi := ⟨_, _, _, _, _, _⟩) (v := ?_) rfl (by kernel_rfl) (by kernel_rfl) (by kernel_rfl) (fun _ _ _ h => h) (Or.inl ⟨by rfl, ?_⟩) hS ?_
                  rotate_left
                  · intro w0 hs; clear hs; go_simp; try (with_reducible rfl)
                  try simp only [Act.put, List.setIfInBounds_toArray, List.set_cons_zero, List.set_cons_succ]
                  refine wpAnyH_done (by kernel_rfl) ?_ _
                  go_wp2
                  all_goals go_roundg (m - (k + 1))
                  all_goals first | exact ⟨k + 1, hlt, rfl, rfl, FINA.out⟩ | (rw [HG.out]; omega)
                · rw [if_pos (by rfl)]
                  go_simp
                  refine hK.out _ _ (hS.alloc hS.size _) (fun hS' => ?_)
                  clear hS hK
                  have hS := hS'; clear hS'
                  try simp only [Act.put, List.setIfInBounds_toArray, List.set_cons_zero, List.set_cons_succ]
                  refine wpAnyH_ready (rs := [4]) (by kernel_rfl) (by simp) ?_
                  refine AllReadyH.cons (o := ⟨_, _, _, _, _, _⟩) rfl (fun K hK => ?_) AllReadyH.nil
                  rw [if_pos (by rfl)]
                  refine wp_appI _ _ 47 rfl rfl rfl runB1 ?_
                  refine hK.out _ _ BELB1.out (fun hS' => ?_)
                  clear hS hK
                  have hS := hS'; clear hS'
                  try simp only [Act.put, List.setIfInBounds_toArray, List.set_cons_zero, List.set_cons_succ]
                  refine wpAnyH_ready (rs := [7]) (by kernel_rfl) (by simp) ?_
                  refine AllReadyH.cons (o := ⟨_, _, _, _, _, _⟩) rfl (fun K hK => ?_) AllReadyH.nil
                  rw [if_pos (by rfl)]
                  refine wp_appI _ _ 47 rfl rfl rfl runB2 ?_
                  refine hK.out _ _ BELB2.out (fun hS' => ?_)
                  clear hS hK
                  have hS := hS'; clear hS'
                  try simp only [Act.put, List.setIfInBounds_toArray, List.set_cons_zero, List.set_cons_succ]
                  refine wpAnyH_ready (rs := [11]) (by kernel_rfl) (by simp) ?_
                  refine AllReadyH.cons (o := ⟨_, _, _, _, _, _⟩) rfl (fun K hK => ?_) AllReadyH.nil
                  rw [if_pos (by rfl)]
                  refine wp_appI _ _ 47 rfl rfl rfl runB3 ?_
                  refine hK.out _ _ BELB3.out (fun hS' => ?_)
                  clear hS hK
                  have hS := hS'; clear hS'
                  try simp only [Act.put, List.setIfInBounds_toArray, List.set_cons_zero, List.set_cons_succ]
                  refine wpAnyH_take (i := 12) (oi := ⟨_, _, _, _, _, _⟩) (v := ?_) rfl (by kernel_rfl) (by kernel_rfl) (by kernel_rfl) (fun _ _ _ h => h) (Or.inl ⟨by rfl, ?_⟩) hS ?_
                  rotate_left
                  · intro w0 hs; clear hs; go_simp; try (with_reducible rfl)
                  try simp only [Act.put, List.setIfInBounds_toArray, List.set_cons_zero, List.set_cons_succ]
                  refine wpAnyH_done (by kernel_rfl) ?_ _
                  go_wp2
                  all_goals go_roundg (m - (k + 1))
                  all_goals first | exact ⟨k + 1, hlt, rfl, rfl, FINB.out⟩ | (rw [HG.out]; omega)
              · rw [if_pos (by rfl)]
                go_simp
                refine hK.out _ _ (hS.alloc hS.size _) (fun hS' => ?_)
                clear hS hK
                have hS := hS'; clear hS'
                try simp only [Act.put, List.setIfInBounds_toArray, List.set_cons_zero, List.set_cons_succ]
                refine wpAnyH_ready (rs := [0]) (by kernel_rfl) (by simp) ?_
                refine AllReadyH.cons (o := ⟨_, _, _, _, _, _⟩) rfl (fun K hK => ?_) AllReadyH.nil
                rw [if_pos (by rfl)]
                go_simp
                refine hK.out _ _ (hS.alloc hS.size _) (fun hS' => ?_)
                clear hS hK
                have hS := hS'; clear hS'
                try simp only [Act.put, List.setIfInBounds_toArray, List.set_cons_zero, List.set_cons_succ]
                refine wpAnyH_ready (rs := [4]) (by kernel_rfl) (by simp) ?_
                refine AllReadyH.cons (o := ⟨_, _, _, _, _, _⟩) rfl (fun K hK => ?_) AllReadyH.nil
                rw [if_pos (by rfl)]
                refine wp_appI _ _ 47 rfl rfl rfl runC1 ?_
                refine hK.out _ _ BELC1.out (fun hS' => ?_)
                clear hS hK
                have hS := hS'; clear hS'
                try simp only [Act.put, List.setIfInBounds_toArray, List.set_cons_zero, List.set_cons_succ]
                refine wpAnyH_ready (rs := [7]) (by kernel_rfl) (by simp) ?_
                refine AllReadyH.cons (o := ⟨_, _, _, _, _, _⟩) rfl (fun K hK => ?_) AllReadyH.nil
                rw [if_pos (by rfl)]
                refine wp_appI _ _ 47 rfl rfl rfl runC2 ?_
                refine hK.out _ _ BELC2.out (fun hS' => ?_)
                clear hS hK
                have hS := hS'; clear hS'
                try simp only [Act.put, List.setIfInBounds_toArray, List.set_cons_zero, List.set_cons_succ]
                refine wpAnyH_ready (rs := [11]) (by kernel_rfl) (by simp) ?_
                refine AllReadyH.cons (o := ⟨_, _, _, _, _, _⟩) rfl (fun K hK => ?_) AllReadyH.nil
                rw [if_pos (by rfl)]
                refine wp_appI _ _ 47 rfl rfl rfl runC3 ?_
                refine hK.out _ _ BELC3.out (fun hS' => ?_)
                clear hS hK
                have hS := hS'; clear hS'
                try simp only [Act.put, List.setIfInBounds_toArray, List.set_cons_zero, List.set_cons_succ]
                refine wpAnyH_take (i := 12) (oi := ⟨_, _, _, _, _, _⟩) (v := ?_) rfl (by kernel_rfl) (by kernel_rfl) (by kernel_rfl) (fun _ _ _ h => h) (Or.inl ⟨by rfl, ?_⟩) hS ?_
                rotate_left
                · intro w0 hs; clear hs; go_simp; try (with_reducible rfl)
                try simp only [Act.put, List.setIfInBounds_toArray, List.set_cons_zero, List.set_cons_succ]
                refine wpAnyH_done (by kernel_rfl) ?_ _
                go_wp2
                all_goals go_roundg (m - (k + 1))
                all_goals first | exact ⟨k + 1, hlt, rfl, rfl, FINC.out⟩ | (rw [HG.out]; omega)
      · obtain rfl : k = m := by omega
        have hsv : vals.take k = vals := List.take_of_length_le (by rw [HV.out.1]; exact Nat.le_refl _)
        rw [hsv] at HK
        obtain ⟨wm, hwm⟩ : ∃ wm, wm = wr := ⟨_, rfl⟩
        subst hwm
        obtain ⟨s, hs⟩ : ∃ s, s = sortN vals := ⟨_, rfl⟩
        rw [← hs] at HK
        have hsl : s.length = k := by rw [hs, sortN_length, HV.out.1]
        have hsp : s.Pairwise (· ≤ ·) := by rw [hs]; exact sortN_sorted _
        have hsb : ∀ x ∈ s, x < 15700000000 := fun x hx => by
          have h1 := HV.out.2.2 x ((mem_sortN _).1 (by rw [hs] at hx; exact hx))
          have h2 : k * 784931 ≤ 20000 * 784931 := Nat.mul_le_mul_right _ hm2
          omega
        obtain ⟨p, c, hv, hpc⟩ := HK.out.1.piece
        rw [hsl] at hv
        subst hv
        have hGw1 : G ≤ w1.heap.size := by rw [← hgw]; exact K1.out.size
        have KM := Lib.hid (K1.out.trans (HK.out.2.mono hGw1))
        have HS := Lib.hid (And.intro hs (And.intro hsl (And.intro hsp hsb)))
        have hr0 : RAt (wm.alloc (.cells #[.slice none 0 0] 73)) wm.heap.size [] none := ⟨_, Blk.new wm _ _, RowV.nil _ _ _, by simp⟩
        have HW0 := Lib.hid (And.intro hr0 ((Below.refl wm.heap.size wm).alloc (Nat.le_refl _) (.cells #[.slice none 0 0] 73)))
        have HPC := Lib.hid hpc
        clear hs hsl hsp hsb hr0 hpc hsv HK
        go_wp2
        go_loopg [13, 64] k (fun gh lst i wx => ∃ j : Nat, j ≤ k ∧ lst = .int .u64 ((lastOf 0 (s.take j) : Nat) : Int) ∧ i = .int .i64 (j : Int) ∧ gh = k - j ∧ Hid (∃ o, RAt wx wm.heap.size (codes 0 (s.take j)) o ∧ (∀ g, o = some g → wm.heap.size ≤ g) ∧ Below wm.heap.size wm wx))
        case atStart => exact ⟨0, Nat.zero_le _, rfl, rfl, rfl, none, HW0.out.1, fun g hg => (by cases hg), HW0.out.2⟩
        case round =>
          obtain ⟨j, hj, rfl, rfl, hg, HR⟩ := hrel
          have HG2 := Lib.hid hg
          clear hg
          obtain ⟨o, ra, ho, hb⟩ := HR.out
          have hcl0 := codes_len (l := s.take j) (last := 0) (fun x hx => HS.out.2.2.2 x (List.mem_of_mem_take hx))
          have hcl1 : (codes 0 (s.take j)).length ≤ 600000000 := by
            have h1 : (s.take j).length ≤ 20000 := by rw [List.length_take, HS.out.2.1]; omega
            have h2 : (s.take j).length * 30000 ≤ 20000 * 30000 := Nat.mul_le_mul_right _ h1
            omega
          clear hcl0
          by_cases hlt : j < k
          · have hjs : j < s.length := by rw [HS.out.2.1]; exact hlt
            obtain ⟨b, off, rfl, hcl⟩ := (HPC.out.below hb) (by omega)
            have cy := hcl j hjs
            have hts := take_snocN s j hjs
            have hly := last_le HS.out.2.2.1 hjs
            have hyb : s.getD j 0 < 15700000000 := HS.out.2.2.2 _ (by rw [List.getD_eq_getElem?_getD, List.getElem?_eq_getElem hjs]; exact List.getElem_mem hjs)
            have HC := Lib.hid (codes_snoc (s.getD j 0) (s.take j) 0)
            generalize lastOf 0 (s.take j) = l at *
            generalize s.getD j 0 = y at *
            obtain ⟨d, hd⟩ : ∃ d, d = y - l := ⟨_, rfl⟩
            have hsub : (y : Int) - (l : Int) = (d : Int) := by omega
            rw [← hd] at HC
            have hdb : d < 15700000000 := by omega
            have PR := rrice wm.heap.size (codes 0 (s.take j)) d 19 o wr ra (by omega) (by omega)
            rw [riceL_code _ hdb] at PR
            have PR := Lib.hid PR
            have HT := Lib.hid (And.intro hts (And.intro ho hb))
            clear hts ho hb ra hcl HR hd hly hyb
            go_wp2_with fail
            refine PR.out.mono ?_
            rintro e w5 ⟨rfl, HGR⟩
            have HGR := Lib.hid HGR
            go_wp2
            go_roundg (k - (j + 1))
            case measure => rw [HG2.out]; omega
            case rel =>
              obtain ⟨o5, q1, q2, q3⟩ := HGR.out
              refine ⟨j + 1, hlt, by rw [HT.out.1, lastOf_snoc], rfl, rfl, o5, by rw [HT.out.1, HC.out]; exact q1, fun g hg => ?_, HT.out.2.2.trans (q3.below HT.out.2.2.size (fun x e => ?_))⟩
              · rcases q2 g hg with e | e
                · exact HT.out.2.1 g e
                · exact Nat.le_trans HT.out.2.2.size e
              · rcases e with e | e
                · exact Nat.le_of_eq e.symm
                · exact HT.out.2.1 _ e
          · obtain rfl : j = k := by omega
            have hall : s.take j = s := List.take_of_length_le (by rw [HS.out.2.1]; exact Nat.le_refl _)
            rw [hall] at ra hcl1
            obtain ⟨i0, hi, hz0, hz1, hz2⟩ := info_parts u8inf
            have PE := Lib.hid (renc j (by omega) wr)
            have HI := Lib.hid (And.intro hi (And.intro hz0 (And.intro hz1 hz2)))
            have HRA := Lib.hid (And.intro ra (And.intro ho hb))
            have HF : Hid (filterS (sortN vals) = encS j ++ pack (codes 0 s)) := Lib.hid (by rw [← HS.out.1]; unfold filterS; rw [HS.out.2.1])
            have hel := encS_len j
            have hpl : (pack (codes 0 s)).length ≤ 75000001 := by rw [pack_length]; unfold nby; omega
            clear ra ho hb HR hall hi hz0 hz1 hz2
            go_wp2_with fail
            refine PE.out.mono ?_
            rintro e w5 ⟨p5, c5, o5, rfl, R5, ho5, hb5⟩
            have ra5 : RAt w5 wm.heap.size (codes 0 s) o := by
              obtain ⟨v, h1, h2, h3⟩ := HRA.out.1
              exact ⟨v, h1.beyond hb5, h2.keep (Keep.of_below (X := fun _ => False) hb5) (fun _ _ h => h), h3⟩
            have PB := Lib.hid (rbytes wm.heap.size (codes 0 s) o w5 ra5 (by omega))
            have HR5 := Lib.hid (And.intro R5 (And.intro ho5 hb5))
            clear R5 ho5 hb5 ra5
            go_wp2_with fail
            refine PB.out.mono ?_
            rintro e w6 ⟨g6, rfl, B6, hg6, hb6⟩
            have R6 := HR5.out.1.keep (Keep.of_below (X := fun _ => False) hb6) (fun _ _ h => h)
            obtain ⟨v7, w7, o7, run7, R7, ho7, k7⟩ := row_appendL (P := Try.prog) 26 26 i0 (.int .u8 0) Try.underlying26 HI.out.1 HI.out.2.1 HI.out.2.2.1 HI.out.2.2.2 rfl R6 (p := some ⟨g6, 0, none⟩) (c := (pack (codes 0 s)).length) (ys := pack (codes 0 s)) (Lib.BytesIn.of_cells fun i hi => by
              rw [Addr.add_lit, B6.cell, List.getElem?_toArray, u8s_get _ _ (by omega), Nat.zero_add]) (by omega)
            have hGm : G ≤ wm.heap.size := by rw [← hgw]; exact KM.out.size
            have K5 := KM.out.trans ((HRA.out.2.2.trans (HR5.out.2.2.mono HRA.out.2.2.size)).mono hGm)
            have hG5 : G ≤ w5.heap.size := by rw [← hgw]; exact K5.size
            have K6 := K5.trans (hb6.mono hG5)
            have hGr : G ≤ wr.heap.size := Nat.le_trans hGm HRA.out.2.2.size
            have hst := own_step hgw K6 (fun g hg => Nat.le_trans hGr (HR5.out.2.1 g hg)) ho7 k7
            obtain ⟨p7, c7, rfl, _⟩ := R7.form
            have H7 := Lib.hid (And.intro R7 hst)
            rw [List.length_append] at run7
            clear R6 B6 hb6 ho7 k7 K5 K6 hst R7
            generalize hL1 : (encS j).length = L1 at *
            generalize hL2 : (pack (codes 0 s)).length = L2 at *
            go_wp2_with (at_builtin; refine wpl_append rfl _ _ 26 rfl rfl rfl run7 ?_)
            have hR7 := H7.out.1
            have hfin := HGO.out o7 (encS j ++ pack (codes 0 s)) p7 c7 w7 HF.out.symm H7.out.2.2 hR7 H7.out.2.1
            rw [show (encS j ++ pack (codes 0 s)).length = L1 + L2 from by rw [List.length_append, hL1, hL2]] at hfin
            clear HS HPC PU HBS HV KM HI PE PB HF HGO HRA HR5 BX1 HR1 HG2 HG HB K1 hR7
            subst hgw
            rw [← HITS.out] at hfin
            exact bodyPost_ret (results_tmp2 Try.results12 _ _ _) rfl hfin
end Go.Proofs.Ytppcccocnmhbgaa
end
