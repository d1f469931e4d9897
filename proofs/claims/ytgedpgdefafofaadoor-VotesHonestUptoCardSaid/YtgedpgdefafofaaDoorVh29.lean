import Derived.Test.YtgedpgdefafofaaDoorVh28
import Derived.Test.YtgedpgdefafofaaDoorVh17
import Derived.Test.YtgedpgdefafofaaDoorVh18
import Derived.Test.YtgedpgdefafofaaDoorVh21
import Derived.Test.YtgedpgdefafofaaDoorRows
import Derived.LaidMore
import Derived.OpenShut
section
/- The document's Lies, walked. -/
namespace Go.Proofs.YtgedpgdefafofaaDoor
open Go Go.RowKit
set_option linter.unusedSimpArgs false
set_option linter.unusedVariables false
set_option maxRecDepth 100000

theorem rowNil (w : World) : RowOf w (.slice none 0 0) none 0 [] := ⟨rfl, Lib.BytesIn.nil _ _ _, by decide, Nat.le_refl _, by decide, fun _ => rfl, fun y hy => (by cases hy), fun q hq => (by cases hq)⟩
/-- a row of nothing put behind -/
theorem ListOf.push {w : World} {G : Nat} {v : Value} {Zs : List (List Int)} (h : ListOf w G v Zs) (hG : G ≤ w.heap.size) (hl : Zs.length ≤ 5000000000000) : ∃ q n c w', v = .slice q Zs.length n ∧ (Builtin.append_ #[34, 34] 34 #[v, .slice (some ⟨w.heap.size, 0, none⟩) 1 1]).run Tryd.prog (w.alloc (.cells #[.slice none 0 0] 30)) = .ok c w' ∧ ListOf w' G c (Zs ++ [[]]) ∧ Below G w w' := by
  obtain ⟨i0, hi, hz0, hz1, hz2⟩ := info_parts rowinfo
  obtain ⟨cs, o, h1, h2, h3⟩ := h
  obtain ⟨g5, c5, w5, run5, rv5, ho5, hk5⟩ := rowV_append1 (P := Tryd.prog) 34 34 i0 (.slice none 0 0) Tryd.underlying34 hi hz0 hz1 hz2 rfl h1 (.slice none 0 0) rfl (by unfold maxLen; omega) (by omega)
  obtain ⟨q, n, rfl, _⟩ := h1.form
  have hmv : some g5 = o ∨ ∃ g, some g5 = some g ∧ w.heap.size ≤ g := by
    rcases ho5 with h | h
    · exact .inl h.symm
    · exact .inr ⟨g5, rfl, h⟩
  have ra := (h3.snoc (A := none) (C := 0) (Z := []) (rowNil w) (fun q hq => by cases hq)).grow hk5 hmv
  have e5 : (Zs ++ [[]]).length = Zs.length + 1 := by simp
  refine ⟨q, n, _, w5, rfl, run5, ⟨_, some g5, by rw [e5]; exact rv5, fun g hg => ?_, ra⟩, hk5.below hG (fun g hg => h2 _ hg)⟩
  cases hg
  rcases ho5 with h | h
  · exact h2 _ h
  · omega
set_option maxHeartbeats 6400000 in
theorem rlies (B : BlkD) (bs : List Int) (q : Option Addr) (c sum : Nat) (w : World) (hB : BlkOk 1048576 w B) (hy : Lib.BytesIn w q bs.length bs) (hr : ∀ y ∈ bs, 0 ≤ y ∧ y ≤ 255) (hc : bs.length ≤ c) (hcm : c ≤ 9223372036854775807) (hl47 : bs.length ≤ 140737488355200) (hsum : sum < W256) :
    Calls Tryd.prog 8 #[.agg (blkCs B).toArray, .slice q bs.length c, hv sum] w fun e w' => e = .returned (.bool (liesS (idN B.hdr) bs sum (ownRows B))) ∧ Below w.heap.size w w' := by
  have L := two_blocks w (blkCs B).toArray (hcs sum) 29 24
  have hs2 : ((w.alloc (.cells (blkCs B).toArray 29)).alloc (.cells (hcs sum) 24)).heap.size = w.heap.size + 2 := by simp
  have HB := Lib.hid (fun (wx : World) (hb : Below w.heap.size w wx) => BlkOk.below hb hB)
  have HY := Lib.hid (fun (wx : World) (hb : Below w.heap.size w wx) => bytes_keep hy (Keep.of_below (X := fun _ => False) hb) (fun _ _ _ h => h))
  have PS := Lib.hid (fun (wx : World) (hb : Below w.heap.size w wx) => rsum bs q c wx (HY.out wx hb) hr hl47)
  have PI := Lib.hid (fun (wx : World) => rhid B.hdr hB.1 wx)
  have PT := Lib.hid (fun (wx : World) (hb : Below w.heap.size w wx) => ritems B none 0 0 (fun _ => none) (fun _ => 0) (fun _ => []) wx (HB.out wx hb) (rowsNil _ _ _ _) (by decide))
  have PM := Lib.hid (fun n a0 len cap A C Z wx (hb : Below w.heap.size w wx) hR hl => rmatch n bs q c a0 len cap A C Z wx (HY.out wx hb) hr hc hcm (by omega) hR hl)
  have hdn := shaN_lt (hbytes (shaN bs))
  have HN := fun (w : World) => hneq (dblN bs) sum hdn hsum w
  have hbi := blkInfo B
  have hhi := hdrInfo B.hdr
  have HR := Lib.hid (fun (wx : World) (g : Nat) (t : TypeId) (h : Blk wx g (blkCs B).toArray t) => And.intro (blk_hdr_range h) (blk_rangeL h))
  have HL := Lib.hid (And.intro L hs2)
  have hrows : allRows B (fun _ => none) (fun _ => 0) (fun _ => []) 0 = ownRows B := rfl
  rw [hrows] at PT
  have hnI : (itemsL (ownRows B)).length ≤ 5000000000000 := by
    have h1 := unlikeN_len (fun i => ((ownRows B).getD i rwNil).z) (ownRows B).length
    have h2 : (ownRows B).length = (txsN B.txs B.txs.n).length + (rowsN (fun _ => none) (fun _ => 0) (fun _ => []) 0).length := List.length_append
    have h3 := txsN_len hB.2 B.txs.n (Nat.le_refl _)
    have h4 : B.txs.n * 1048576 ≤ 1048576 * 1048576 := Nat.mul_le_mul_right _ hB.2.2.1.1
    rw [rowsN_len] at h2
    have h5 : (itemsL (ownRows B)).length ≤ (ownRows B).length := h1
    omega
  generalize ownRows B = RW at *
  generalize idN B.hdr = ID at *
  generalize hdrCs B.hdr = HC at *
  generalize blkCs B = BC at *
  clear L hs2 hB hy hrows
  obtain ⟨R, hR⟩ : ∃ R, R = liesS ID bs sum RW := ⟨_, rfl⟩
  rw [← hR]
  have HRR := Lib.hid hR
  have hnone := @liesS_none ID bs sum RW
  have hsome : ∀ v, valuesS bs = some v → liesS ID bs sum RW = ((dblN bs != sum) || (itemsL RW).any (fun Z => !matchB ID v Z)) := fun v h => liesS_some h
  have HNS := Lib.hid (And.intro hnone hsome)
  clear hR hnone hsome
  generalize hbn : bs.length = bn at *
  generalize dblN bs = D at *
  go_enter Tryd.func8, Tryd.ntmps8
  go_upto_region 1 with fail
  generalize (w.alloc (.cells BC.toArray 29)).alloc (.cells (hcs sum) 24) = W at *
  generalize hgw : w.heap.size = g at *
  have hgW : g ≤ W.heap.size := by have := HL.out.2; omega
  have LB : ∀ w', Below W.heap.size W w' → w'.rangeAt (g + 1) 0 (hls sum) := fun w' hS => blk_range (HL.out.1.2.1.beyond hS)
  have HLB := Lib.hid LB
  have PS1 := Lib.hid (fun w' (hS : Below W.heap.size W w') => PS.out w' (HL.out.1.2.2.trans (hS.mono hgW)))
  clear LB
  refine wp_region_held_drew (S := fun w' => Below W.heap.size W w') (by kernel_rfl) ((Below.refl _ _).drew) (fun hS => ?_)
  refine wpAnyH_take (i := 0) (oi := ⟨_, _, _, _, _, _⟩) (v := ?_) rfl (by kernel_rfl) (by kernel_rfl) (by kernel_rfl) (fun _ _ _ h => h) (Or.inl ⟨by rfl, ?_⟩) hS ?_
  rotate_left
  · intro w0 hs; clear hs; go_simp; try (with_reducible rfl)
  try simp only [Act.put, List.setIfInBounds_toArray, List.set_cons_zero, List.set_cons_succ]
  refine wpAnyH_take (i := 2) (oi := ⟨_, _, _, _, _, _⟩) (v := hv sum) rfl (by kernel_rfl) (by kernel_rfl) (by kernel_rfl) (fun _ _ _ h => h) (yld_hash (by rfl) (.tmp 5) rfl (g + 1) 0 rfl sum (fun w0 hs => HLB.out w0 hs)) hS ?_
  try simp only [Act.put, List.setIfInBounds_toArray, List.set_cons_zero, List.set_cons_succ]
  refine wpAnyH_ready (rs := [1]) (by kernel_rfl) (by simp) ?_
  refine AllReadyH.cons (o := ⟨_, _, _, _, _, _⟩) rfl (fun K hK => ?_) AllReadyH.nil
  rw [if_pos (by rfl)]
  go_step
  refine (PS1.out _ hS).mono ?_
  rintro e v1 ⟨rfl, hv1⟩
  simp only []
  refine hK.out _ _ (hS.trans (hv1.mono hS.size)) (fun hS' => ?_)
  clear hS hK
  have hS := hS'; clear hS'
  try simp only [Act.put, List.setIfInBounds_toArray, List.set_cons_zero, List.set_cons_succ]
  refine wpAnyH_take (i := 3) (oi := ⟨_, _, _, _, _, _⟩) (v := .bool (D != sum)) rfl (by kernel_rfl) (by kernel_rfl) (by kernel_rfl) (fun _ _ _ h => h) (Or.inl ⟨by rfl, fun w0 _ => exec_neq (va := hv D) (vb := hv sum) rfl rfl rfl (eqgN _ _ _ _ w0) (HN w0)⟩) hS ?_
  try simp only [Act.put, List.setIfInBounds_toArray, List.set_cons_zero, List.set_cons_succ]
  refine wpAnyH_done (by kernel_rfl) ?_ _
  have K2 := Lib.hid (HL.out.1.2.2.trans (hS.mono hgW))
  have b0 := HL.out.1.1.beyond hS
  clear hS
  cases hD : (D != sum) with
  | true =>
    have hRt : R = true := by
      rw [HRR.out]
      cases hvs : valuesS bs with
      | none => exact HNS.out.1 hvs
      | some v => rw [HNS.out.2 v hvs, hD]; rfl
    subst hRt
    clear hD
    go_wp2
    exact bodyPost_ret (results_tmp Tryd.results8 _ _ _) rfl ⟨rfl, by first | exact K2.out | (rw [hgw]; exact K2.out)⟩
  | false =>
    have hRn : valuesS bs = none → R = true := fun h => by rw [HRR.out]; exact HNS.out.1 h
    have hRs : ∀ v, valuesS bs = some v → R = (itemsL RW).any (fun Z => !matchB ID v Z) := fun v h => by rw [HRR.out, HNS.out.2 v h, hD]; rfl
    have HRT := Lib.hid (And.intro hRn hRs)
    have hr4 := (HR.out v1 g _ b0).1
    have PI4 := Lib.hid (PI.out v1)
    have HB0 := Lib.hid b0
    clear hD hRn hRs b0
    go_upto_region 3 with fail
    go_wp2_with (refine wpList_load_mid rfl 26 (.tmp 16) rfl g 0 rfl HC _ hr4 Tryd.underlying26 rfl hhi ?_)
    refine PI4.out.mono ?_
    rintro e w5 ⟨rfl, hb5⟩
    have hg4 : g ≤ v1.heap.size := by rw [← hgw]; exact K2.out.size
    have K5 := K2.out.trans (hb5.mono hg4)
    have hg5 : g ≤ w5.heap.size := by rw [← hgw]; exact K5.size
    have bz := Blk.new w5 hz32 24
    have kz := (Below.refl w5.heap.size w5).alloc (Nat.le_refl _) (.cells hz32 24)
    have bid := bz.setAll (hcs ID) (by rw [hcs_size]; rfl)
    have kid := below_setCells (B := w5.heap.size) (g := w5.heap.size) (Nat.le_refl _) (hcs ID).toList 0 (w5.alloc (.cells hz32 24)) kz
    have k46 := hb5.trans (kid.mono hb5.size)
    have H6 := Lib.hid (And.intro bid (And.intro (K5.trans (kid.mono hg5)) (HB0.out.beyond k46)))
    clear hb5 K5 kz bid kid k46 hr4
    go_upto_region 4 with (refine wpl_store rfl 24 (.tmp 7) (.tmp 18) rfl rfl rfl bz (by rw [hcs_size]; rfl) (by rw [hcs_size]; kernel_rfl) (hcs_one _) ?_)
    clear bz
    generalize (w5.alloc (.cells hz32 24)).setCells w5.heap.size 0 (hcs ID).toList = w6 at *
    generalize w5.heap.size = ib at *
    have hr6 := (HR.out w6 g _ H6.out.2.2).2
    have PT6 := Lib.hid (PT.out w6 H6.out.2.1)
    have hg6 : g ≤ w6.heap.size := by rw [← hgw]; exact H6.out.2.1.size
    go_wp2_with (refine wpList_load_mid rfl 29 (.tmp 3) rfl g 0 rfl BC _ hr6 Tryd.underlying29 rfl hbi ?_)
    refine PT6.out.mono ?_
    rintro e w7 ⟨⟨v7, rfl, hlist⟩, hb7⟩
    obtain ⟨q7, n7, v8, w8, rfl, run8, hlist8, hb8⟩ := hlist.push hb7.size hnI
    obtain ⟨q9, c9, A9, C9, rfl, hle9, hc9, hrows9⟩ := hlist8.rows
    have K8 := H6.out.2.1.trans ((hb7.trans hb8).mono hg6)
    have h68 := hb7.trans hb8
    have e9 : (itemsL RW ++ [[]]).length = (itemsL RW).length + 1 := by simp
    have H9 := Lib.hid (And.intro K8 (And.intro (H6.out.1.beyond h68) hrows9))
    rw [e9] at run8 hle9
    obtain ⟨nI, hnIe⟩ : ∃ nI, nI = (itemsL RW).length := ⟨_, rfl⟩
    rw [← hnIe] at run8 hle9 hnI ⊢
    have HNI := Lib.hid hnIe
    have hg8 : g ≤ w8.heap.size := by rw [← hgw]; exact K8.size
    clear hlist hb7 hlist8 hb8 hrows9 K8 h68 e9 hnIe hr6
    go_wp2_with (at_builtin; refine wpl_append rfl _ _ 34 rfl rfl rfl run8 ?_)
    go_loopg [24] (nI + 1) (fun gh i wx => ∃ k : Nat, k ≤ nI + 1 ∧ i = .int .i64 (k : Int) ∧ gh = nI + 1 - k ∧ Hid (Below w8.heap.size w8 wx ∧ (k = 0 ∨ ∃ v, valuesS bs = some v) ∧ ∀ v, valuesS bs = some v → ∀ r, r < k → r < nI → matchB ID v ((itemsL RW).getD r []) = true))
    case atStart => exact ⟨0, Nat.zero_le _, rfl, rfl, Below.refl _ _, .inl rfl, fun v _ r hr => by omega⟩
    case round =>
      obtain ⟨k, hk, rfl, hg, HK⟩ := hrel
      have HGK := Lib.hid hg
      clear hg
      have hgr : g ≤ wr.heap.size := Nat.le_trans hg8 HK.out.1.size
      have Kr := H9.out.1.trans (HK.out.1.mono hg8)
      have HKr := Lib.hid Kr
      clear Kr
      by_cases hlt : k < nI + 1
      · obtain ⟨b, off, rfl, hcx, hrow⟩ := (H9.out.2.2.below HK.out.1) k (by rw [List.length_append, ← HNI.out]; exact hlt)
        obtain ⟨Zk, hZk⟩ : ∃ Zk, Zk = (itemsL RW ++ [[]]).getD k [] := ⟨_, rfl⟩
        change wr.cell? ⟨b, off + k, none⟩ = some (.slice (A9 k) ((itemsL RW ++ [[]]).getD k []).length (C9 k)) at hcx
        change RowOf wr (.slice (A9 k) ((itemsL RW ++ [[]]).getD k []).length (C9 k)) (A9 k) (C9 k) ((itemsL RW ++ [[]]).getD k []) at hrow
        rw [← hZk] at hcx hrow
        have bid := H9.out.2.1.beyond HK.out.1
        have ka := (Below.refl wr.heap.size wr).alloc (Nat.le_refl _) (.cells #[.slice (A9 k) Zk.length (C9 k)] 30)
        have PMk := PM.out ID (some ⟨wr.heap.size, 0, none⟩) 1 1 (fun _ => A9 k) (fun _ => C9 k) (fun _ => Zk) (wr.alloc (.cells #[.slice (A9 k) Zk.length (C9 k)] 30)) (HKr.out.trans (ka.mono hgr)) (one_row hrow) (by decide)
        have HKa := Lib.hid (And.intro ka (HKr.out.trans (ka.mono hgr)))
        have HZ := Lib.hid hZk
        clear hrow ka hZk
        cases hvs : valuesS bs with
        | none =>
          rw [matchE_none hvs] at PMk
          replace PMk := Lib.hid PMk
          have hRt : R = true := HRT.out.1 hvs
          subst hRt
          generalize Zk.length = zk at *
          go_wp2_with (refine wpl_load rfl 24 (.tmp 7) rfl rfl bid Tryd.underlying24 (by rw [hcs_size]; kernel_rfl) ?_)
          refine PMk.out.mono ?_
          rintro e w10 ⟨rfl, hb10⟩
          have HF := Lib.hid (HKa.out.2.trans (hb10.mono (Nat.le_trans hgr HKa.out.1.size)))
          clear hb10
          go_wp2
          exact bodyPost_ret (results_tmp Tryd.results8 _ _ _) rfl ⟨rfl, by first | exact HF.out | (rw [hgw]; exact HF.out)⟩
        | some v =>
          rw [matchE_one hvs] at PMk
          replace PMk := Lib.hid PMk
          have hRs := HRT.out.2 v hvs
          have HRS := Lib.hid hRs
          have hm0 : matchB ID v Zk = (decide (0 < Zk.length) && decide (itemV ID v.length Zk ∈ v)) := rfl
          have HM0 := Lib.hid hm0
          have HVS := Lib.hid hvs
          clear hRs hm0 hvs
          generalize hmm : matchB ID v Zk = m at *
          have HMM := Lib.hid hmm
          obtain ⟨zk, hzk⟩ : ∃ zk, zk = Zk.length := ⟨_, rfl⟩
          rw [← hzk] at hcx PMk HKa
          have HZK := Lib.hid hzk
          clear hmm hzk
          go_wp2_with (refine wpl_load rfl 24 (.tmp 7) rfl rfl bid Tryd.underlying24 (by rw [hcs_size]; kernel_rfl) ?_)
          refine PMk.out.mono ?_
          rintro e w10 ⟨rfl, hb10⟩
          have HF := Lib.hid (And.intro (HKa.out.2.trans (hb10.mono (Nat.le_trans hgr HKa.out.1.size))) (HK.out.1.trans ((HKa.out.1.trans (hb10.mono HKa.out.1.size)).mono HK.out.1.size)))
          clear hb10
          cases m with
          | true =>
            go_wp2
            go_roundg (nI + 1 - (k + 1))
            case measure => rw [HGK.out]; omega
            case rel => exact ⟨k + 1, hlt, rfl, rfl, HF.out.2, .inr ⟨v, HVS.out⟩, fun v2 hv2 r hr hr2 => by
              have e2 := HVS.out
              rw [hv2] at e2
              cases e2
              rcases Nat.lt_or_ge r k with h | h
              · exact HK.out.2.2 v hv2 r h hr2
              · obtain rfl : r = k := by omega
                have := HMM.out
                rw [HZ.out, List.getD_eq_getElem?_getD, List.getElem?_append_left (by rw [← HNI.out]; exact hr2)] at this
                rw [List.getD_eq_getElem?_getD]; exact this⟩
          | false =>
            by_cases hz0 : 0 < zk
            · have hkI : k < nI := by
                rcases Nat.lt_or_ge k nI with h | h
                · exact h
                · exfalso
                  obtain rfl : k = nI := by omega
                  have := HZ.out
                  rw [List.getD_eq_getElem?_getD, List.getElem?_append_right (by rw [← HNI.out]; exact Nat.le_refl _), ← HNI.out, Nat.sub_self] at this
                  have hz := HZK.out
                  rw [this] at hz
                  simp at hz
                  omega
              have hRt : R = true := by
                rw [HRS.out, List.any_eq_true]
                have e1 := HZ.out
                rw [List.getD_eq_getElem?_getD, List.getElem?_append_left (by rw [← HNI.out]; exact hkI), List.getElem?_eq_getElem (by rw [← HNI.out]; exact hkI)] at e1
                refine ⟨Zk, by rw [e1]; exact List.getElem_mem _, ?_⟩
                rw [HMM.out]; rfl
              subst hRt
              have z1 : (0 : Int) < (zk : Int) := by omega
              have z2 : decide ((0 : Int) < (zk : Int)) = true := decide_eq_true z1
              go_wp2
              exact bodyPost_ret (results_tmp Tryd.results8 _ _ _) rfl ⟨rfl, by first | exact HF.out.1 | (rw [hgw]; exact HF.out.1)⟩
            · have z1 : ¬ (0 : Int) < (zk : Int) := by omega
              have z2 : decide ((0 : Int) < (zk : Int)) = false := decide_eq_false z1
              have hkI : k = nI := by
                rcases Nat.lt_or_ge k nI with h | h
                · exfalso
                  have e1 := HZ.out
                  rw [List.getD_eq_getElem?_getD, List.getElem?_append_left (by rw [← HNI.out]; exact h), List.getElem?_eq_getElem (by rw [← HNI.out]; exact h)] at e1
                  have hmem : Zk ∈ itemsL RW := by rw [e1]; exact List.getElem_mem _
                  have := unlikeN_ne hmem
                  have := HZK.out
                  omega
                · omega
              have HKI := Lib.hid hkI
              clear hkI
              go_wp2
              go_roundg (nI + 1 - (k + 1))
              case measure => rw [HGK.out]; omega
              case rel => exact ⟨k + 1, hlt, rfl, rfl, HF.out.2, .inr ⟨v, HVS.out⟩, fun v2 hv2 r hr hr2 => HK.out.2.2 v2 hv2 r (by have := HKI.out; omega) hr2⟩
      · obtain rfl : k = nI + 1 := by omega
        have hRt : R = false := by
          obtain ⟨v, hv'⟩ := HK.out.2.1.resolve_left (by omega)
          rw [HRT.out.2 v hv', List.any_eq_false]
          intro Z hZ
          obtain ⟨i, hi, e⟩ := List.mem_iff_getElem.1 hZ
          have := HK.out.2.2 v hv' i (by have := HNI.out; omega) (by have := HNI.out; omega)
          rw [List.getD_eq_getElem?_getD, List.getElem?_eq_getElem hi] at this
          have this' : matchB ID v (itemsL RW)[i] = true := this
          rw [e] at this'
          rw [this']; decide
        subst hRt
        go_wp2
        exact bodyPost_ret (results_tmp Tryd.results8 _ _ _) rfl ⟨rfl, by first | exact HKr.out | (rw [hgw]; exact HKr.out)⟩
end Go.Proofs.YtgedpgdefafofaaDoor
end

section
/- What the document's Build gives, read by Lies: plainly. -/
namespace Go.Proofs.YtgedpgdefafofaaDoor
open Go Go.RowKit
set_option linter.unusedVariables false
set_option linter.unusedSimpArgs false

theorem mem_unlikeN {Z : Nat → List Int} : ∀ {k i : Nat}, i < k → Z i ≠ [] → Z i ∈ unlikeN Z k
  | k + 1, i, hi, h0 => by
    by_cases hc : Z k = [] ∨ Z k ∈ unlikeN Z k
    · rw [unlikeN_skip hc]
      rcases Nat.lt_or_ge i k with h | h
      · exact mem_unlikeN h h0
      · obtain rfl : i = k := by omega
        exact hc.resolve_left h0
    · rw [unlikeN_more hc, List.mem_append]
      rcases Nat.lt_or_ge i k with h | h
      · exact .inl (mem_unlikeN h h0)
      · obtain rfl : i = k := by omega
        exact .inr (by simp)
theorem mem_unlike_list {l : List (List Int)} {x : List Int} (hx : x ∈ l) (h0 : x ≠ []) : x ∈ unlikeN (fun i => l.getD i []) l.length := by
  obtain ⟨i, hi, rfl⟩ := List.mem_iff_getElem.1 hx
  have e : l.getD i [] = l[i] := by rw [List.getD_eq_getElem?_getD, List.getElem?_eq_getElem hi]; rfl
  have := mem_unlikeN (Z := fun i => l.getD i []) hi (by show l.getD i [] ≠ []; rw [e]; exact h0)
  rw [← e]; exact this
theorem mem_itemsL {l : List RwD} {r : RwD} (hr : r ∈ l) (h0 : r.z ≠ []) : r.z ∈ itemsL l := by
  obtain ⟨i, hi, rfl⟩ := List.mem_iff_getElem.1 hr
  have e : l.getD i rwNil = l[i] := by rw [List.getD_eq_getElem?_getD, List.getElem?_eq_getElem hi]; rfl
  have := mem_unlikeN (Z := fun i => (l.getD i rwNil).z) hi (by show (l.getD i rwNil).z ≠ []; rw [e]; exact h0)
  rw [← e]; exact this
theorem itemsL_mem {l : List RwD} {x : List Int} (h : x ∈ itemsL l) : ∃ r ∈ l, r.z = x := by
  obtain ⟨i, hi, e⟩ := unlikeN_mem h
  rw [List.getD_eq_getElem?_getD, List.getElem?_eq_getElem hi] at e
  exact ⟨l[i], List.getElem_mem hi, e.symm⟩
/-- a block's own items are among all -/
theorem own_all {B : BlkD} {A : Nat → Option Addr} {C : Nat → Nat} {Z : Nat → List Int} {n : Nat} {x : List Int} (h : x ∈ itemsL (ownRows B)) : x ∈ itemsL (allRows B A C Z n) := by
  have h0 : x ≠ [] := fun e => by have := unlikeN_ne h; rw [e] at this; simp at this
  obtain ⟨r, hr, rfl⟩ := itemsL_mem h
  refine mem_itemsL ?_ h0
  have hr' : r ∈ txsN B.txs B.txs.n ++ rowsN (fun _ => none) (fun _ => 0) (fun _ => []) 0 := hr
  rcases List.mem_append.1 hr' with h | h
  · exact List.mem_append_left _ h
  · simp [rowsN] at h
/-- the numbers of the items, in order, are in what Build writes -/
theorem values_build {n : Nat} {U : List (List Int)} (hU : U.length ≤ 20000) : valuesS (buildS n U) = some (sortN (U.map (itemV n U.length))) := by
  refine valuesS_filterS (by rw [sortN_length, List.length_map]; exact hU) (sortN_sorted _) (fun v hv => ?_)
  rw [sortN_length, List.length_map]
  obtain ⟨Y, hY, rfl⟩ := List.mem_map.1 ((mem_sortN _).1 hv)
  exact itemV_lt' n _ Y (List.length_pos_of_mem hY)
theorem match_build {n : Nat} {U : List (List Int)} {x : List Int} (hx : x ∈ U) (h0 : x ≠ []) : matchB n (sortN (U.map (itemV n U.length))) x = true := by
  unfold matchB
  rw [sortN_length, List.length_map]
  have h1 : 0 < x.length := List.length_pos_iff.2 h0
  have h2 : itemV n U.length x ∈ sortN (U.map (itemV n U.length)) := (mem_sortN _).2 (List.mem_map_of_mem hx)
  simp [h1, h2]
theorem lies_build {n : Nat} {U : List (List Int)} (hU : U.length ≤ 20000) {l : List RwD} (hl : ∀ x ∈ itemsL l, x ∈ U) : liesS n (buildS n U) (dblN (buildS n U)) l = false := by
  rw [liesS_some (values_build hU)]
  have h1 : (dblN (buildS n U) != dblN (buildS n U)) = false := by simp
  rw [h1, Bool.false_or, List.any_eq_false]
  intro x hx
  have h0 : x ≠ [] := fun e => by have := unlikeN_ne hx; rw [e] at this; simp at this
  rw [match_build (hl x hx) h0]; decide
theorem lies_wrong {n s : Nat} {bs : List Int} {l : List RwD} (h : s ≠ dblN bs) : liesS n bs s l = true := by
  cases hv : valuesS bs with
  | none => exact liesS_none hv
  | some v =>
    rw [liesS_some hv]
    have : (dblN bs != s) = true := by simpa using fun e => h e.symm
    rw [this, Bool.true_or]
/-- what Build writes is bytes, and not too many -/
theorem encS_range (n : Nat) : ∀ y ∈ encS n, 0 ≤ y ∧ y ≤ 255 := by
  have hle : ∀ k, ∀ y ∈ leB n k, 0 ≤ y ∧ y ≤ 255 := fun k y hy => by
    obtain ⟨i, _, rfl⟩ := List.mem_map.1 hy
    omega
  intro y hy
  unfold encS at hy
  split at hy
  · have : y = (n : Int) := by simpa using hy
    omega
  · split at hy
    · rcases List.mem_cons.1 hy with rfl | h
      · decide
      · exact hle _ y h
    · split at hy
      · rcases List.mem_cons.1 hy with rfl | h
        · decide
        · exact hle _ y h
      · rcases List.mem_cons.1 hy with rfl | h
        · decide
        · exact hle _ y h
theorem pack_rangeH (l : List Bool) : ∀ y ∈ pack l, 0 ≤ y ∧ y ≤ 255 := fun y hy => by
  obtain ⟨i, _, rfl⟩ := List.mem_map.1 hy
  have := accB_lt l l.length i
  omega
theorem buildS_range (n : Nat) (U : List (List Int)) : ∀ y ∈ buildS n U, 0 ≤ y ∧ y ≤ 255 := fun y hy => by
  rcases List.mem_append.1 hy with h | h
  · exact encS_range _ y h
  · exact pack_rangeH _ y h
theorem buildS_len {n : Nat} {U : List (List Int)} (hU : U.length ≤ 20000) : (buildS n U).length ≤ 100000000 := by
  unfold buildS filterS
  rw [List.length_append, pack_length]
  have h1 := encS_len (sortN (U.map (itemV n U.length))).length
  have hs : (sortN (U.map (itemV n U.length))).length = U.length := by rw [sortN_length, List.length_map]
  have h2 := codes_len (l := sortN (U.map (itemV n U.length))) (last := 0) (fun v hv => by
    obtain ⟨Y, hY, rfl⟩ := List.mem_map.1 ((mem_sortN _).1 hv)
    have h1 := itemV_lt' n U.length Y (List.length_pos_of_mem hY)
    have h2 : U.length * 784931 ≤ 20000 * 784931 := Nat.mul_le_mul_right _ hU
    omega)
  rw [hs] at h2
  have h3 : U.length * 30000 ≤ 20000 * 30000 := Nat.mul_le_mul_right _ hU
  unfold nby
  omega
end Go.Proofs.YtgedpgdefafofaaDoor
end

section
/- Opening arguments of bounded bulk: a block, bytes, slices of bytes. -/
namespace Go.Proofs.YtgedpgdefafofaaDoor
open Go Go.ChangeShapes Go.WideShapes Go.ChangeAt Go.RowKit
set_option linter.unusedVariables false
set_option maxRecDepth 100000

theorem upto_part {H : Type} {l : List (DataW H)} (hk : Rows.uptoSmall H l = true) {d : DataW H} (hd : d ∈ l) : Rows.uptoBulk d ≤ 1048576 := by
  have h : Rows.uptoBulkAll l ≤ 1048576 := of_decide_eq_true hk
  exact Nat.le_trans (bulk_part hd) h
section
variable {H : Type} {enc : TypeId × Value → H} {w : World} {b0 : Nat} {r : Reach} {v : Value} {d : DataW H} {p : List MemPlace}
theorem open_blkU (hv : Value.okWide Tryd.prog w r b0 29 v) (h : DataW.Trod enc Tryd.prog w 0 (fun _ => true) true 29 v d p) (hb : Rows.uptoBulk d ≤ 1048576) : ∃ B, v = .agg (blkCs B).toArray ∧ BlkOk 1048576 w B := by
  obtain ⟨cs, rfl, _⟩ := okWide_struct Tryd.underlying29 hv
  obtain ⟨fuel, hf⟩ := h
  have hok := ok_of_trod (M := 1048576) (f := 9) (by kernel_rfl) hf hb
  obtain ⟨B, e, hB⟩ := ok_blk (f := 0) (Nat.le_refl _) hok
  have e' : cs.toList = blkCs B := e
  exact ⟨B, by rw [← e'], hB⟩
theorem open_rowU (hv : Value.okWide Tryd.prog w r b0 30 v) (h : DataW.Trod enc Tryd.prog w 0 (fun _ => true) true 30 v d p) (hb : Rows.uptoBulk d ≤ 1048576) : ∃ x : RwD, v = .slice x.a x.z.length x.c ∧ RwOk 1048576 w x := by
  obtain ⟨a0, len, cap, rfl⟩ := okWide_slice Tryd.underlying30 hv
  obtain ⟨fuel, hf⟩ := h
  have hok := ok_of_trod (M := 1048576) (f := 2) (by kernel_rfl) hf hb
  obtain ⟨x, e, hx⟩ := Ok.row (f := 0) (Nat.le_refl _) hok
  have e' : [Value.slice a0 len cap] = [x.cell] := e
  exact ⟨x, by injection e', hx⟩
theorem open_browsU (hv : Value.okWide Tryd.prog w r b0 34 v) (h : DataW.Trod enc Tryd.prog w 0 (fun _ => true) true 34 v d p) (hb : Rows.uptoBulk d ≤ 1048576) : ∃ s : SlD RwD, v = .slice s.a s.n s.c ∧ SlOk 1048576 1 (fun r : RwD => [r.cell]) (RwOk 1048576) w s := by
  obtain ⟨a0, len, cap, rfl⟩ := okWide_slice Tryd.underlying34 hv
  obtain ⟨fuel, hf⟩ := h
  have hok := ok_of_trod (M := 1048576) (f := 3) (by kernel_rfl) hf hb
  obtain ⟨x, e, hx⟩ := ok_wit (f := 0) (Nat.le_refl _) hok
  have e' : [Value.slice a0 len cap] = [x.cell] := e
  exact ⟨x, by injection e', hx⟩
end
/-- such slices, told as rows -/
theorem SlOk.rows {w : World} {M : Nat} {s : SlD RwD} (h : SlOk M 1 (fun r : RwD => [r.cell]) (RwOk M) w s) : RowsIn w s.a s.n (fun i => (s.x i).a) (fun i => (s.x i).c) (fun i => (s.x i).z) := fun i hi => by
  obtain ⟨b, o, h1, h2, h3, h4⟩ := h.2.2.2 i hi
  refine ⟨b, o, h1, ?_, h4.1⟩
  have := h3 0 (by simp)
  rw [Nat.mul_one, Nat.add_zero] at this
  exact this
end Go.Proofs.YtgedpgdefafofaaDoor
end

section
/- The laid tables of sha, read. -/
namespace Go.Proofs.YtgedpgdefafofaaDoor
open Go Go.RowKit Go.ChangeShapes Go.WideShapes
set_option maxRecDepth 100000

theorem gFirst : Tryd.prog.globalNamed "sporran/sha.first" = some 0 := by kernel_rfl
theorem gWords : Tryd.prog.globalNamed "sporran/sha.words" = some 1 := by kernel_rfl
theorem tFirst : (Tryd.prog.globals[0]?).map (·.type) = some 144 := by kernel_rfl
theorem tWords : (Tryd.prog.globals[1]?).map (·.type) = some 126 := by kernel_rfl
theorem u32cells : Tryd.prog.cellsOf 22 = 1 := by kernel_rfl
/-- an array of words of 32 bits, read -/
theorem trod_u32s {H : Type} {enc : TypeId × Value → H} {w : World} {base : Nat} {spare : Nat → Bool} {held : Bool} {fuel n : Nat} {t : TypeId} {cs : List Value} {d : DataW H} {ps : List MemPlace} (L : List Int)
    (ht : Tryd.prog.underlying t = some (.array n 22)) (h : DataW.trod enc Tryd.prog w base spare held fuel t cs = some (d, ps)) (hd : d = .agg (L.map fun k => .lit (.int .u32 k))) (hL : L.length = n) (hct : Tryd.prog.cellsOf t = n) :
    ∀ i, i < n → cs[i]? = some (.int .u32 (L.getD i 0)) := by
  obtain ⟨xs, m, _, hx, hl, hn, hi⟩ := DataW.trod_array ht h
  rw [u32cells] at hi
  rw [hct] at hl
  intro i hlt
  have h1 := hi i hlt
  rw [Nat.mul_one] at h1
  obtain ⟨x, hxi⟩ : ∃ x, xs[i]? = some x := ⟨xs[i]'(by omega), List.getElem?_eq_getElem (by omega)⟩
  rw [hxi] at h1
  have hc : cs[i]? = some (cs[i]'(by omega)) := List.getElem?_eq_getElem (by omega)
  have h2 : (cs.drop i).take 1 = [cs[i]'(by omega)] := by simp [List.take_one, hc]
  rw [h2] at h1
  obtain ⟨z, e0, e1, _⟩ := DataW.trod_int Tryd.underlying22 h1
  rw [hc]
  simp at e0
  rw [e0]
  have e2 : xs.map (·.1) = L.map fun k => .lit (.int .u32 k) := by
    simp only [Prod.mk.injEq] at hx
    have := hx.1.symm.trans hd
    simpa using this
  have e3 := congrArg (fun l : List (DataW H) => l[i]?) e2
  simp only [List.getElem?_map, hxi, Option.map_some] at e3
  have hLi : L[i]? = some (L.getD i 0) := by
    rw [List.getD_eq_getElem?_getD, List.getElem?_eq_getElem (by omega)]; rfl
  rw [hLi, Option.map_some, e1] at e3
  simp at e3
  rw [e3]; simp [List.getD_eq_getElem?_getD]
def s0L : List Int := [0x6a09e667, 0xbb67ae85, 0x3c6ef372, 0xa54ff53a, 0x510e527f, 0x9b05688c, 0x1f83d9ab, 0x5be0cd19]
def kwL : List Int := shaK.map fun (n : Nat) => (n : Int)
theorem s0L_iv (i : Nat) (hi : i < 8) : s0L.getD i 0 = iv (s0 i) := by
  rcases (by omega : i = 0 ∨ i = 1 ∨ i = 2 ∨ i = 3 ∨ i = 4 ∨ i = 5 ∨ i = 6 ∨ i = 7) with h | h | h | h | h | h | h | h <;> subst h <;> kernel_rfl
theorem shaK_lt : ∀ i, i < 64 → shaK.getD i 0 < 4294967296 := by decide +kernel
theorem kwL_iv (i : Nat) (hi : i < 64) : kwL.getD i 0 = iv (kw i) := by
  unfold kwL kw iv
  rw [BitVec.toNat_ofNat, Nat.mod_eq_of_lt (shaK_lt i hi), List.getD_eq_getElem?_getD, List.getElem?_map, List.getD_eq_getElem?_getD]
  have : shaK[i]? = some (shaK[i]'(by rw [show shaK.length = 64 from rfl]; exact hi)) := List.getElem?_eq_getElem _
  rw [this]; rfl
theorem glob_of {W : World} (h : laidMetH Tryd.prog [("sporran/sha.words", Rows.laid_sporran_sha_words), ("sporran/sha.first", Rows.laid_sporran_sha_first)] W) : Glob W := by
  rw [MakeChecks.laidMetH_plain _ _ _ (by kernel_rfl)] at h
  obtain ⟨ps, ⟨g0, t0, cs0, f0, p0, q0, hg0, ht0, hv0, hd0, ⟨g1, t1, cs1, f1, p1, q1, hg1, ht1, hv1, hd1, _, _⟩, _⟩, _, _⟩ := h
  obtain rfl := Option.some.inj (gWords.symm.trans hg0)
  obtain rfl := Option.some.inj (gFirst.symm.trans hg1)
  obtain rfl := Option.some.inj (tWords.symm.trans ht0)
  obtain rfl := Option.some.inj (tFirst.symm.trans ht1)
  refine ⟨fun i hi => ?_, fun i hi => ?_⟩
  · have hc := trod_u32s s0L Tryd.underlying144 hd1 (by kernel_rfl) rfl (by kernel_rfl) i hi
    have := World.var?_cell hg1 hv1 i
    rw [this]
    rw [s0L_iv i hi] at hc
    simpa using hc
  · have hc := trod_u32s kwL Tryd.underlying126 hd0 (by kernel_rfl) rfl (by kernel_rfl) i hi
    have := World.var?_cell hg0 hv0 i
    rw [this]
    rw [kwL_iv i hi] at hc
    simpa using hc
end Go.Proofs.YtgedpgdefafofaaDoor
end

section
/- The law VotesLies, walked. -/
namespace Go.Proofs.YtgedpgdefafofaaDoor
open Go Go.RowKit
set_option linter.unusedSimpArgs false
set_option linter.unusedVariables false
set_option maxRecDepth 100000

theorem valuesS_nil : valuesS [] = none := by
  unfold valuesS; rw [if_pos (.inl (by decide))]
theorem yld_blk {ops : Array Oper} {S : World → Prop} {op : Oper} {a : Act} (BC : List Value) (hbi : (Tryd.prog.info? 29).map (·.size) = some BC.length) (hw : Region.wanted op (yielded ops a.tmps) = true) (x : Operand) (ho : op.op = .load 29 x) (b k : Nat) (hx : a.eval x = .pointer (some ⟨b, k, none⟩)) (hS : ∀ w, S w → w.rangeAt b k BC) :
    YieldsIf Tryd.prog ops S op (.agg BC.toArray) a :=
  yieldsIf_load_mid hw 29 x ho b k hx BC _ hS Tryd.underlying29 rfl hbi
set_option maxHeartbeats 6400000 in
theorem lies_walk (B : BlkD) (r : RwD) (sum : Nat) (own : Bool) (w : World) (G : Glob w) (hB : BlkOk 1048576 w B) (hr : RwOk 1048576 w r) (hsum : sum < W256) :
    Calls Tryd.prog 3 #[.agg (blkCs B).toArray, .slice r.a r.z.length r.c, hv sum, .bool own] w fun e w' => e = .returned (.bool true) ∧ Below w.heap.size w w' := by
  have hlen : r.z.length ≤ 1048576 := hr.2
  have hdn := shaN_lt (hbytes (shaN r.z))
  have L := two_blocks w (blkCs B).toArray (hcs sum) 29 24
  have hs2 : ((w.alloc (.cells (blkCs B).toArray 29)).alloc (.cells (hcs sum) 24)).heap.size = w.heap.size + 2 := by simp
  have HL := Lib.hid (And.intro L hs2)
  have P1 := Lib.hid (fun (s : Nat) (hs : s < W256) (wx : World) (hb : Below w.heap.size w wx) => plies B r.z r.a r.c s wx (G.below hb) (BlkOk.below hb hB) (hr.1.below hb).bytes hr.1.range hr.1.cap hr.1.most (by omega) hs)
  have P2 := Lib.hid (fun (s : Nat) (hs : s < W256) (wx : World) (hb : Below w.heap.size w wx) => rlies B r.z r.a r.c s wx (BlkOk.below hb hB) (hr.1.below hb).bytes hr.1.range hr.1.cap hr.1.most (by omega) hs)
  have P3 := fun (s : Nat) (hs : s < W256) (wx : World) (hb : Below w.heap.size w wx) => plies B [] none 0 s wx (G.below hb) (BlkOk.below hb hB) (Lib.BytesIn.nil _ _ _) (fun y hy => by cases hy) (Nat.le_refl _) (by decide) (by decide) hs
  have hn3 : ∀ s, liesS (idN B.hdr) [] s (ownRows B) = true := fun s => liesS_none valuesS_nil
  have P3' : ∀ (s : Nat), s < W256 → ∀ wx, Below w.heap.size w wx → Calls Tryd.prog 7 #[.agg (blkCs B).toArray, .slice none 0 0, hv s] wx fun e w' => e = .returned (.bool true) ∧ Below wx.heap.size wx w' := fun s hs wx hb => by
    have := P3 s hs wx hb
    rw [hn3] at this; exact this
  have P3 := Lib.hid P3'
  have P4 := Lib.hid (fun (wx : World) (hb : Below w.heap.size w wx) => rsum r.z r.a r.c wx (hr.1.below hb).bytes hr.1.range (by omega))
  have hbi := blkInfo B
  have HR := Lib.hid (fun (wx : World) (g : Nat) (t : TypeId) (h : Blk wx g (blkCs B).toArray t) => blk_rangeL h)
  clear L hs2 G hB hr P3' hn3
  generalize blkCs B = BC at *
  generalize hzl : r.z.length = zl at *
  have FIN : ∀ (s : Nat) (hs : s < W256) (W : World) (g : Nat) (hg : w.heap.size = g) (hW : Below g w W) (b0 : Blk W g BC.toArray 29) (b1 : Blk W (g + 1) (hcs s) 24), True := fun _ _ _ _ _ _ _ _ => trivial
  clear FIN
  go_enter Tryd.func3, Tryd.ntmps3
  go_upto_region 1 with fail
  generalize (w.alloc (.cells BC.toArray 29)).alloc (.cells (hcs sum) 24) = W at *
  generalize hgw : w.heap.size = g at *
  have hgW : g ≤ W.heap.size := by have := HL.out.2; omega
  cases own with
  | false =>
    have HS := Lib.hid (And.intro HL.out.1.2.2 (And.intro HL.out.1.1 HL.out.1.2.1))
    go_upto_region 3 with fail
    have LB : ∀ w', Below W.heap.size W w' → w'.rangeAt g 0 BC := fun w' hS => HR.out _ _ _ (HS.out.2.1.beyond hS)
    have LS : ∀ w', Below W.heap.size W w' → w'.rangeAt (g + 1) 0 (hls sum) := fun w' hS => blk_range (HS.out.2.2.beyond hS)
    have HLB := Lib.hid LB
    have HLS := Lib.hid LS
    have hgWW : g ≤ W.heap.size := by rw [← hgw]; exact HS.out.1.size
    have U : ∀ w', Below W.heap.size W w' → Below g w w' := fun w' hS => HS.out.1.trans (hS.mono hgWW)
    have HU := Lib.hid U
    obtain ⟨R, hR⟩ : ∃ R, R = liesS (idN B.hdr) r.z sum (ownRows B) := ⟨_, rfl⟩
    have Q1 : ∀ w', Below W.heap.size W w' → Calls Tryd.prog 7 #[.agg BC.toArray, .slice r.a zl r.c, hv sum] w' fun e w'' => e = .returned (.bool R) ∧ Below w'.heap.size w' w'' := fun w' hS => by rw [hR]; exact P1.out sum hsum w' (HU.out w' hS)
    have Q2 : ∀ w', Below W.heap.size W w' → Calls Tryd.prog 8 #[.agg BC.toArray, .slice r.a zl r.c, hv sum] w' fun e w'' => e = .returned (.bool R) ∧ Below w'.heap.size w' w'' := fun w' hS => by rw [hR]; exact P2.out sum hsum w' (HU.out w' hS)
    have HQ1 := Lib.hid Q1
    have HQ2 := Lib.hid Q2
    have HQ3 := Lib.hid (fun w' (hS : Below W.heap.size W w') => P3.out sum hsum w' (HU.out w' hS))
    have hRR : (R == R) = true := beq_self_eq_true R
    clear LB LS U Q1 Q2 hR
    refine wp_region_held_drew (S := fun w' => Below W.heap.size W w') (by kernel_rfl) ((Below.refl _ _).drew) (fun hS => ?_)
    refine wpAnyH_take (i := 0) (oi := ⟨_, _, _, _, _, _⟩) (v := .agg BC.toArray) rfl (by kernel_rfl) (by kernel_rfl) (by kernel_rfl) (fun _ _ _ h => h) (yld_blk BC hbi (by rfl) (.tmp 4) rfl g 0 rfl (fun w0 hs => HLB.out w0 hs)) hS ?_
    try simp only [Act.put, List.setIfInBounds_toArray, List.set_cons_zero, List.set_cons_succ]
    refine wpAnyH_take (i := 1) (oi := ⟨_, _, _, _, _, _⟩) (v := ?_) rfl (by kernel_rfl) (by kernel_rfl) (by kernel_rfl) (fun _ _ _ h => h) (Or.inl ⟨by rfl, ?_⟩) hS ?_
    rotate_left
    · intro w0 hs; clear hs; go_simp; try (with_reducible rfl)
    try simp only [Act.put, List.setIfInBounds_toArray, List.set_cons_zero, List.set_cons_succ]
    refine wpAnyH_take (i := 2) (oi := ⟨_, _, _, _, _, _⟩) (v := hv sum) rfl (by kernel_rfl) (by kernel_rfl) (by kernel_rfl) (fun _ _ _ h => h) (yld_hash (by rfl) (.tmp 6) rfl (g + 1) 0 rfl sum (fun w0 hs => HLS.out w0 hs)) hS ?_
    try simp only [Act.put, List.setIfInBounds_toArray, List.set_cons_zero, List.set_cons_succ]
    refine wpAnyH_take (i := 4) (oi := ⟨_, _, _, _, _, _⟩) (v := .agg BC.toArray) rfl (by kernel_rfl) (by kernel_rfl) (by kernel_rfl) (fun _ _ _ h => h) (yld_blk BC hbi (by rfl) (.tmp 4) rfl g 0 rfl (fun w0 hs => HLB.out w0 hs)) hS ?_
    try simp only [Act.put, List.setIfInBounds_toArray, List.set_cons_zero, List.set_cons_succ]
    refine wpAnyH_take (i := 5) (oi := ⟨_, _, _, _, _, _⟩) (v := ?_) rfl (by kernel_rfl) (by kernel_rfl) (by kernel_rfl) (fun _ _ _ h => h) (Or.inl ⟨by rfl, ?_⟩) hS ?_
    rotate_left
    · intro w0 hs; clear hs; go_simp; try (with_reducible rfl)
    try simp only [Act.put, List.setIfInBounds_toArray, List.set_cons_zero, List.set_cons_succ]
    refine wpAnyH_take (i := 6) (oi := ⟨_, _, _, _, _, _⟩) (v := hv sum) rfl (by kernel_rfl) (by kernel_rfl) (by kernel_rfl) (fun _ _ _ h => h) (yld_hash (by rfl) (.tmp 6) rfl (g + 1) 0 rfl sum (fun w0 hs => HLS.out w0 hs)) hS ?_
    try simp only [Act.put, List.setIfInBounds_toArray, List.set_cons_zero, List.set_cons_succ]
    refine wpAnyH_ready (rs := [3]) (by kernel_rfl) (by simp) ?_
    refine AllReadyH.cons (o := ⟨_, _, _, _, _, _⟩) rfl (fun K hK => ?_) AllReadyH.nil
    rw [if_pos (by rfl)]
    go_step
    refine (HQ1.out _ hS).mono ?_
    rintro e v1 ⟨rfl, hv1⟩
    simp only []
    refine hK.out _ _ (hS.trans (hv1.mono hS.size)) (fun hS' => ?_)
    clear hS hK
    have hS := hS'; clear hS'
    try simp only [Act.put, List.setIfInBounds_toArray, List.set_cons_zero, List.set_cons_succ]
    refine wpAnyH_ready (rs := [7]) (by kernel_rfl) (by simp) ?_
    refine AllReadyH.cons (o := ⟨_, _, _, _, _, _⟩) rfl (fun K hK => ?_) AllReadyH.nil
    rw [if_pos (by rfl)]
    go_step
    refine (HQ2.out _ hS).mono ?_
    rintro e v2 ⟨rfl, hv2⟩
    simp only []
    refine hK.out _ _ (hS.trans (hv2.mono hS.size)) (fun hS' => ?_)
    clear hS hK
    have hS := hS'; clear hS'
    try simp only [Act.put, List.setIfInBounds_toArray, List.set_cons_zero, List.set_cons_succ]
    refine wpAnyH_take (i := 8) (oi := ⟨_, _, _, _, _, _⟩) (v := ?_) rfl (by kernel_rfl) (by kernel_rfl) (by kernel_rfl) (fun _ _ _ h => h) (Or.inl ⟨by rfl, ?_⟩) hS ?_
    rotate_left
    · intro w0 hs; clear hs; go_simp; try (with_reducible rfl)
    try simp only [Act.put, List.setIfInBounds_toArray, List.set_cons_zero, List.set_cons_succ]
    refine wpAnyH_take (i := 9) (oi := ⟨_, _, _, _, _, _⟩) (v := ?_) rfl (by kernel_rfl) (by kernel_rfl) (by kernel_rfl) (fun _ _ _ h => h) (Or.inl ⟨by rfl, ?_⟩) hS ?_
    rotate_left
    · intro w0 hs; clear hs; go_simp; try (with_reducible rfl)
    try simp only [Act.put, List.setIfInBounds_toArray, List.set_cons_zero, List.set_cons_succ]
    refine wpAnyH_take (i := 10) (oi := ⟨_, _, _, _, _, _⟩) (v := .agg BC.toArray) rfl (by kernel_rfl) (by kernel_rfl) (by kernel_rfl) (fun _ _ _ h => h) (yld_blk BC hbi (by rfl) (.tmp 4) rfl g 0 rfl (fun w0 hs => HLB.out w0 hs)) hS ?_
    try simp only [Act.put, List.setIfInBounds_toArray, List.set_cons_zero, List.set_cons_succ]
    refine wpAnyH_take (i := 11) (oi := ⟨_, _, _, _, _, _⟩) (v := hv sum) rfl (by kernel_rfl) (by kernel_rfl) (by kernel_rfl) (fun _ _ _ h => h) (yld_hash (by rfl) (.tmp 6) rfl (g + 1) 0 rfl sum (fun w0 hs => HLS.out w0 hs)) hS ?_
    try simp only [Act.put, List.setIfInBounds_toArray, List.set_cons_zero, List.set_cons_succ]
    refine wpAnyH_ready (rs := [12]) (by kernel_rfl) (by simp) ?_
    refine AllReadyH.cons (o := ⟨_, _, _, _, _, _⟩) rfl (fun K hK => ?_) AllReadyH.nil
    rw [if_pos (by rfl)]
    go_step
    refine (HQ3.out _ hS).mono ?_
    rintro e v3 ⟨rfl, hv3⟩
    simp only []
    refine hK.out _ _ (hS.trans (hv3.mono hS.size)) (fun hS' => ?_)
    clear hS hK
    have hS := hS'; clear hS'
    try simp only [Act.put, List.setIfInBounds_toArray, List.set_cons_zero, List.set_cons_succ]
    refine wpAnyH_take (i := 13) (oi := ⟨_, _, _, _, _, _⟩) (v := ?_) rfl (by kernel_rfl) (by kernel_rfl) (by kernel_rfl) (fun _ _ _ h => h) (Or.inl ⟨by rfl, ?_⟩) hS ?_
    rotate_left
    · intro w0 hs; clear hs; go_simp; try (with_reducible rfl)
    try simp only [Act.put, List.setIfInBounds_toArray, List.set_cons_zero, List.set_cons_succ]
    refine wpAnyH_take (i := 14) (oi := ⟨_, _, _, _, _, _⟩) (v := ?_) rfl (by kernel_rfl) (by kernel_rfl) (by kernel_rfl) (fun _ _ _ h => h) (Or.inl ⟨by rfl, ?_⟩) hS ?_
    rotate_left
    · intro w0 hs; clear hs; go_simp; try (with_reducible rfl)
    try simp only [Act.put, List.setIfInBounds_toArray, List.set_cons_zero, List.set_cons_succ]
    refine wpAnyH_done (by kernel_rfl) ?_ _
    go_wp2
    go_ret
    exact ⟨rfl, by first | exact HU.out _ hS | (rw [hgw]; exact HU.out _ hS)⟩
  | true =>
    have P4W := Lib.hid (P4.out W HL.out.1.2.2)
    have bs0 := HL.out.1.2.1
    go_wp2_with fail
    refine P4W.out.mono ?_
    rintro e W1 ⟨rfl, hb1⟩
    have b1 := bs0.beyond hb1
    have HK1 := Lib.hid (And.intro (HL.out.1.2.2.trans (hb1.mono hgW)) (HL.out.1.1.beyond hb1))
    have hD : dblN r.z < W256 := hdn
    generalize dblN r.z = D at *
    have k2 := Keep.setCells (X := fun k => k = g + 1) (g := g + 1) (.inl rfl) (hcs D).toList 0 (Keep.refl _ W1)
    have HS := Lib.hid (And.intro (below_setCells (B := g) (g := g + 1) (by omega) (hcs D).toList 0 W1 HK1.out.1) (And.intro (k2.blk HK1.out.2 (by omega)) (b1.setAll (hcs D) (by rw [hcs_size, hcs_size]))))
    clear bs0 hb1 k2
    go_upto_region 3 with (refine wpl_store rfl 24 (.tmp 6) (.tmp 11) rfl rfl rfl b1 (by rw [hcs_size, hcs_size]) (by rw [hcs_size]; kernel_rfl) (hcs_one _) ?_)
    clear b1
    generalize W1.setCells (g + 1) 0 (hcs D).toList = W2 at *
    have LB : ∀ w', Below W2.heap.size W2 w' → w'.rangeAt g 0 BC := fun w' hS => HR.out _ _ _ (HS.out.2.1.beyond hS)
    have LS : ∀ w', Below W2.heap.size W2 w' → w'.rangeAt (g + 1) 0 (hls D) := fun w' hS => blk_range (HS.out.2.2.beyond hS)
    have HLB := Lib.hid LB
    have HLS := Lib.hid LS
    have hgWW : g ≤ W2.heap.size := by rw [← hgw]; exact HS.out.1.size
    have U : ∀ w', Below W2.heap.size W2 w' → Below g w w' := fun w' hS => HS.out.1.trans (hS.mono hgWW)
    have HU := Lib.hid U
    obtain ⟨R, hR⟩ : ∃ R, R = liesS (idN B.hdr) r.z D (ownRows B) := ⟨_, rfl⟩
    have Q1 : ∀ w', Below W2.heap.size W2 w' → Calls Tryd.prog 7 #[.agg BC.toArray, .slice r.a zl r.c, hv D] w' fun e w'' => e = .returned (.bool R) ∧ Below w'.heap.size w' w'' := fun w' hS => by rw [hR]; exact P1.out D hD w' (HU.out w' hS)
    have Q2 : ∀ w', Below W2.heap.size W2 w' → Calls Tryd.prog 8 #[.agg BC.toArray, .slice r.a zl r.c, hv D] w' fun e w'' => e = .returned (.bool R) ∧ Below w'.heap.size w' w'' := fun w' hS => by rw [hR]; exact P2.out D hD w' (HU.out w' hS)
    have HQ1 := Lib.hid Q1
    have HQ2 := Lib.hid Q2
    have HQ3 := Lib.hid (fun w' (hS : Below W2.heap.size W2 w') => P3.out D hD w' (HU.out w' hS))
    have hRR : (R == R) = true := beq_self_eq_true R
    clear LB LS U Q1 Q2 hR
    refine wp_region_held_drew (S := fun w' => Below W2.heap.size W2 w') (by kernel_rfl) ((Below.refl _ _).drew) (fun hS => ?_)
    refine wpAnyH_take (i := 0) (oi := ⟨_, _, _, _, _, _⟩) (v := .agg BC.toArray) rfl (by kernel_rfl) (by kernel_rfl) (by kernel_rfl) (fun _ _ _ h => h) (yld_blk BC hbi (by rfl) (.tmp 4) rfl g 0 rfl (fun w0 hs => HLB.out w0 hs)) hS ?_
    try simp only [Act.put, List.setIfInBounds_toArray, List.set_cons_zero, List.set_cons_succ]
    refine wpAnyH_take (i := 1) (oi := ⟨_, _, _, _, _, _⟩) (v := ?_) rfl (by kernel_rfl) (by kernel_rfl) (by kernel_rfl) (fun _ _ _ h => h) (Or.inl ⟨by rfl, ?_⟩) hS ?_
    rotate_left
    · intro w0 hs; clear hs; go_simp; try (with_reducible rfl)
    try simp only [Act.put, List.setIfInBounds_toArray, List.set_cons_zero, List.set_cons_succ]
    refine wpAnyH_take (i := 2) (oi := ⟨_, _, _, _, _, _⟩) (v := hv D) rfl (by kernel_rfl) (by kernel_rfl) (by kernel_rfl) (fun _ _ _ h => h) (yld_hash (by rfl) (.tmp 6) rfl (g + 1) 0 rfl D (fun w0 hs => HLS.out w0 hs)) hS ?_
    try simp only [Act.put, List.setIfInBounds_toArray, List.set_cons_zero, List.set_cons_succ]
    refine wpAnyH_take (i := 4) (oi := ⟨_, _, _, _, _, _⟩) (v := .agg BC.toArray) rfl (by kernel_rfl) (by kernel_rfl) (by kernel_rfl) (fun _ _ _ h => h) (yld_blk BC hbi (by rfl) (.tmp 4) rfl g 0 rfl (fun w0 hs => HLB.out w0 hs)) hS ?_
    try simp only [Act.put, List.setIfInBounds_toArray, List.set_cons_zero, List.set_cons_succ]
    refine wpAnyH_take (i := 5) (oi := ⟨_, _, _, _, _, _⟩) (v := ?_) rfl (by kernel_rfl) (by kernel_rfl) (by kernel_rfl) (fun _ _ _ h => h) (Or.inl ⟨by rfl, ?_⟩) hS ?_
    rotate_left
    · intro w0 hs; clear hs; go_simp; try (with_reducible rfl)
    try simp only [Act.put, List.setIfInBounds_toArray, List.set_cons_zero, List.set_cons_succ]
    refine wpAnyH_take (i := 6) (oi := ⟨_, _, _, _, _, _⟩) (v := hv D) rfl (by kernel_rfl) (by kernel_rfl) (by kernel_rfl) (fun _ _ _ h => h) (yld_hash (by rfl) (.tmp 6) rfl (g + 1) 0 rfl D (fun w0 hs => HLS.out w0 hs)) hS ?_
    try simp only [Act.put, List.setIfInBounds_toArray, List.set_cons_zero, List.set_cons_succ]
    refine wpAnyH_ready (rs := [3]) (by kernel_rfl) (by simp) ?_
    refine AllReadyH.cons (o := ⟨_, _, _, _, _, _⟩) rfl (fun K hK => ?_) AllReadyH.nil
    rw [if_pos (by rfl)]
    go_step
    refine (HQ1.out _ hS).mono ?_
    rintro e v1 ⟨rfl, hv1⟩
    simp only []
    refine hK.out _ _ (hS.trans (hv1.mono hS.size)) (fun hS' => ?_)
    clear hS hK
    have hS := hS'; clear hS'
    try simp only [Act.put, List.setIfInBounds_toArray, List.set_cons_zero, List.set_cons_succ]
    refine wpAnyH_ready (rs := [7]) (by kernel_rfl) (by simp) ?_
    refine AllReadyH.cons (o := ⟨_, _, _, _, _, _⟩) rfl (fun K hK => ?_) AllReadyH.nil
    rw [if_pos (by rfl)]
    go_step
    refine (HQ2.out _ hS).mono ?_
    rintro e v2 ⟨rfl, hv2⟩
    simp only []
    refine hK.out _ _ (hS.trans (hv2.mono hS.size)) (fun hS' => ?_)
    clear hS hK
    have hS := hS'; clear hS'
    try simp only [Act.put, List.setIfInBounds_toArray, List.set_cons_zero, List.set_cons_succ]
    refine wpAnyH_take (i := 8) (oi := ⟨_, _, _, _, _, _⟩) (v := ?_) rfl (by kernel_rfl) (by kernel_rfl) (by kernel_rfl) (fun _ _ _ h => h) (Or.inl ⟨by rfl, ?_⟩) hS ?_
    rotate_left
    · intro w0 hs; clear hs; go_simp; try (with_reducible rfl)
    try simp only [Act.put, List.setIfInBounds_toArray, List.set_cons_zero, List.set_cons_succ]
    refine wpAnyH_take (i := 9) (oi := ⟨_, _, _, _, _, _⟩) (v := ?_) rfl (by kernel_rfl) (by kernel_rfl) (by kernel_rfl) (fun _ _ _ h => h) (Or.inl ⟨by rfl, ?_⟩) hS ?_
    rotate_left
    · intro w0 hs; clear hs; go_simp; try (with_reducible rfl)
    try simp only [Act.put, List.setIfInBounds_toArray, List.set_cons_zero, List.set_cons_succ]
    refine wpAnyH_take (i := 10) (oi := ⟨_, _, _, _, _, _⟩) (v := .agg BC.toArray) rfl (by kernel_rfl) (by kernel_rfl) (by kernel_rfl) (fun _ _ _ h => h) (yld_blk BC hbi (by rfl) (.tmp 4) rfl g 0 rfl (fun w0 hs => HLB.out w0 hs)) hS ?_
    try simp only [Act.put, List.setIfInBounds_toArray, List.set_cons_zero, List.set_cons_succ]
    refine wpAnyH_take (i := 11) (oi := ⟨_, _, _, _, _, _⟩) (v := hv D) rfl (by kernel_rfl) (by kernel_rfl) (by kernel_rfl) (fun _ _ _ h => h) (yld_hash (by rfl) (.tmp 6) rfl (g + 1) 0 rfl D (fun w0 hs => HLS.out w0 hs)) hS ?_
    try simp only [Act.put, List.setIfInBounds_toArray, List.set_cons_zero, List.set_cons_succ]
    refine wpAnyH_ready (rs := [12]) (by kernel_rfl) (by simp) ?_
    refine AllReadyH.cons (o := ⟨_, _, _, _, _, _⟩) rfl (fun K hK => ?_) AllReadyH.nil
    rw [if_pos (by rfl)]
    go_step
    refine (HQ3.out _ hS).mono ?_
    rintro e v3 ⟨rfl, hv3⟩
    simp only []
    refine hK.out _ _ (hS.trans (hv3.mono hS.size)) (fun hS' => ?_)
    clear hS hK
    have hS := hS'; clear hS'
    try simp only [Act.put, List.setIfInBounds_toArray, List.set_cons_zero, List.set_cons_succ]
    refine wpAnyH_take (i := 13) (oi := ⟨_, _, _, _, _, _⟩) (v := ?_) rfl (by kernel_rfl) (by kernel_rfl) (by kernel_rfl) (fun _ _ _ h => h) (Or.inl ⟨by rfl, ?_⟩) hS ?_
    rotate_left
    · intro w0 hs; clear hs; go_simp; try (with_reducible rfl)
    try simp only [Act.put, List.setIfInBounds_toArray, List.set_cons_zero, List.set_cons_succ]
    refine wpAnyH_take (i := 14) (oi := ⟨_, _, _, _, _, _⟩) (v := ?_) rfl (by kernel_rfl) (by kernel_rfl) (by kernel_rfl) (fun _ _ _ h => h) (Or.inl ⟨by rfl, ?_⟩) hS ?_
    rotate_left
    · intro w0 hs; clear hs; go_simp; try (with_reducible rfl)
    try simp only [Act.put, List.setIfInBounds_toArray, List.set_cons_zero, List.set_cons_succ]
    refine wpAnyH_done (by kernel_rfl) ?_ _
    go_wp2
    go_ret
    exact ⟨rfl, by first | exact HU.out _ hS | (rw [hgw]; exact HU.out _ hS)⟩
end Go.Proofs.YtgedpgdefafofaaDoor
end
