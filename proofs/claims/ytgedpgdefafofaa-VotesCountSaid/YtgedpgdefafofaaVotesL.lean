/- The law VotesCount, walked. -/
import Derived.Test.YtgedpgdefafofaaVotesK
namespace Go.Proofs.Ytgedpgdefafofaa
open Go Go.RowKit
set_option linter.unusedSimpArgs false

theorem sum_take_succ (f : Nat → Nat) (M : List Nat) (k : Nat) (hk : k < M.length) : ((M.take (k + 1)).map f).sum = ((M.take k).map f).sum + f (M.getD k 0) := by
  rw [take_getD M k 0 hk, List.map_append, List.sum_append]; simp
theorem sum_take_le (f : Nat → Nat) : ∀ (M : List Nat) (k : Nat), ((M.take k).map f).sum ≤ (M.map f).sum
  | [], k => by simp
  | m :: M, 0 => by simp
  | m :: M, k + 1 => by
    have := sum_take_le f M k
    simp only [List.take_succ_cons, List.map_cons, List.sum_cons]; omega
theorem vdel_cut {L : VL} {x : Int} (hd : (L.map Prod.fst).Nodup) (h : vhas L x = true) : (vdel L x).length = L.length - 1 := by
  obtain ⟨A, n, B, hL, _, _, hdel⟩ := vsplit hd h
  rw [hdel, hL]; simp
theorem vdel_absent {L : VL} {x : Int} (h : vhas L x = false) : vdel L x = L := vdel_none fun e he h' => by
  have : vhas L x = true := by unfold vhas; rw [List.any_eq_true]; exact ⟨e, he, by simp [h']⟩
  rw [h] at this; cases this
/-- what a round of VotesCount finds -/
def Cnt (W wx : World) (p bm bi : Nat) (k : Nat) : Prop :=
  ∃ L o, VAt wx p L bm o ∧ IMap Try.prog 3 wx bi (fin L) L.length ∧ VL.ok L ∧ L.length ≤ k ∧ (∀ g, o = some g → W.heap.size ≤ g ∧ g ≠ bi) ∧ Below W.heap.size W wx
set_option maxHeartbeats 6400000 in
theorem count_walk (a0 : Option Addr) (len cap : Nat) (D : Nat → VDo) (W : World) (hD : DosIn W a0 len D) (hlen : len ≤ 9223372036854775807) :
    Calls Try.prog 3 #[.slice a0 len cap] W fun e w' => e = .returned (.bool true) ∧ Below W.heap.size W w' := by
  have HD := Lib.hid hD
  have LDI := hashInfo
  have DI := doInfo
  clear hD
  go_enter Try.func3, Try.ntmps3
  go_wp2_with (refine wpl_build (ps := #[]) rfl 26 #[] rfl rfl (buildZero _) ?_)
  refine (pnew 0 _).mono ?_
  rintro e w1 ⟨p, bm, rfl, hV, hp, hbm, hb⟩
  have hlt := hV.lt
  have hm1 := Lib.hid (IMap.made w1 Try.prog 3)
  have hV1 := Lib.hid (hV.below ((Below.refl w1.heap.size w1).alloc (Nat.le_refl _) (.map #[] 0)))
  have hb1 := Lib.hid (hb.alloc hb.size (.map #[] 0))
  have hp1 : p < w1.heap.size := hlt p (.inl rfl)
  have hbm1 : bm < w1.heap.size := hlt bm (.inr (.inl rfl))
  have hbi : W.heap.size ≤ w1.heap.size := hb.size
  clear hV hlt hb
  go_upto_region 3 with (refine wpl_makeMap rfl _ rfl ?_)
  generalize w1.alloc (.map #[] 0) = w2 at *
  generalize w1.heap.size = bi at *
  go_wp2
  go_loopg [18] len (fun gh i wx => ∃ k : Nat, k ≤ len ∧ k ≤ 51 ∧ i = .int .i64 (k : Int) ∧ gh = len - k ∧ Hid (Cnt W wx p bm bi k))
  case atStart => exact ⟨0, Nat.zero_le _, Nat.zero_le _, rfl, rfl, [], none, hV1.out, hm1.out, VL.ok_nil, Nat.le_refl _, (fun g hg => by cases hg), hb1.out⟩
  case round =>
    obtain ⟨k, hk, hk51, rfl, hg, HM⟩ := hrel
    have HG := Lib.hid hg
    clear hg
    obtain ⟨L, o, hV, hI, hok, hlk, ho, hbw⟩ := HM.out
    by_cases hlt : k < len
    · obtain ⟨b, off, rfl, hr, hdo, hbl⟩ := (HD.out.below hbw) k hlt
      generalize D k = d at *
      have hst := storeDo d wr
      have BH := Lib.hid (Blk.new wr (do1 d).toArray 29)
      have KB := Lib.hid ((Below.refl wr.heap.size wr).alloc (Nat.le_refl _) (.cells (do1 d).toArray 29))
      have HV := Lib.hid (hV.below ((Below.refl wr.heap.size wr).alloc (Nat.le_refl _) (.cells (do1 d).toArray 29)))
      have HI := Lib.hid (hI.keep (X := fun _ => False) ((Keep.refl _ wr).alloc (.cells (do1 d).toArray 29)) (fun h => h))
      have hnf : ¬ foot3 p bm o wr.heap.size := fun h => Nat.lt_irrefl _ (hV.lt _ h)
      have hin : ¬ foot3 p bm o bi := by
        rintro (h | h | h)
        · omega
        · omega
        · exact (ho _ h).2 rfl
      have hil := hI.lt
      have HS := Lib.hid (And.intro hok (And.intro hlk (And.intro ho hbw)))
      have K1 := Lib.hid (hbw.trans (KB.out.mono hbw.size))
      clear hV hI hok hlk ho hbw
      go_upto_region 6 with (refine wpList_load_mid rfl 29 (.tmp 21) rfl b (off + k * 34) rfl (do1 d) _ hr Try.underlying29 rfl DI ?_)
      generalize wr.alloc (.cells (do1 d).toArray 29) = wB at *
      generalize hgd : wr.heap.size = GD at *
      have hgl := BH.out.lt
      have c33 := do_leave BH.out
      have c0 : wB.cell? ⟨GD, 0, none⟩ = some (.int .i64 d.1) := BH.out.cell 0
      have ch := do_hash BH.out
      obtain ⟨x, n, lv⟩ := d
      have hwf := hdo.1
      have hnn := hdo.2
      clear hst hr hdo
      by_cases h50 : 50 < k
      · have HVT := HV
        have HIT := HI
        have HOK := Lib.hid HS.out.1
        have KT := K1
        have hinT := hin
        have hlk := HS.out.2.1
        have hftT := Lib.hid (show ∀ g, foot3 p bm o g → W.heap.size ≤ g from fun g h => by
          rcases h with rfl | rfl | h
          · exact hp
          · exact hbm
          · exact (HS.out.2.2.1 _ h).1)
        clear ch c0 c33
        have hl9 : L.length ≤ 10000 := by omega
        have PS := Lib.hid (psums p L bm o wB HVT.out hl9 HOK.out)
        go_wp2_with fail
        refine PS.out.mono ?_
        rintro e w3 ⟨vs, o3, rfl, hr3, ho3, hb3⟩
        obtain ⟨M, hM⟩ : ∃ M, M = once (L.map Prod.snd) := ⟨_, rfl⟩
        rw [← hM] at hr3
        have HMM := Lib.hid hM
        have hsum := saidBy_cover L
        rw [← hM] at hsum
        have HSUM := Lib.hid hsum
        have hMl : M.length ≤ 10000 := by
          rw [hM]; exact Nat.le_trans (once_len _) (by simp; omega)
        have hMw : ∀ y ∈ M, y < W256 := fun y hy => by
          rw [hM, once_mem] at hy
          obtain ⟨e, he, rfl⟩ := List.mem_map.1 hy
          exact (HOK.out.2 e he).2
        obtain ⟨q3, c3, rfl, hin3⟩ := HsIn.of_row hr3 hMw
        have H3 := Lib.hid hin3
        have HV3 := Lib.hid (HVT.out.below hb3)
        have HI3 := Lib.hid (HIT.out.keep (X := fun _ => False) (Keep.of_below hb3) (fun h => h))
        have K3 := Lib.hid (KT.out.trans (hb3.mono KT.out.size))
        have HMW := Lib.hid hMw
        clear hr3 ho3 hb3 hM hsum hMw hin3 PS
        go_wp2
        go_loopg [7, 59] M.length (fun gh nn i wx => ∃ k t : Nat, k ≤ M.length ∧ t ≤ 10000 ∧ nn = .int .i64 (t : Int) ∧ i = .int .i64 (k : Int) ∧ gh = M.length - k ∧ Hid (t = ((M.take k).map fun h => (saidBy L h).length).sum ∧ Below w3.heap.size w3 wx))
        case atStart => exact ⟨0, 0, Nat.zero_le _, Nat.zero_le _, rfl, rfl, rfl, rfl, Below.refl _ _⟩
        case round =>
          obtain ⟨j, t, hj, ht, rfl, rfl, hg, HT⟩ := hrel
          have HG2 := Lib.hid hg
          clear hg
          by_cases hjl : j < M.length
          · obtain ⟨g3, rfl, hgl3, hr3, hx3⟩ := (H3.out.below HT.out.2).2 j hjl
            have hstep := sum_take_succ (fun h => (saidBy L h).length) M j hjl
            have hle := sum_take_le (fun h => (saidBy L h).length) M (j + 1)
            rw [HSUM.out, hstep] at hle
            rw [← HT.out.1] at hstep hle
            generalize M.getD j 0 = hh at *
            have hstep := Lib.hid hstep
            have hst := storeHash hh wr
            have BH := Lib.hid (Blk.new wr (hcs hh) 26)
            have KB := Lib.hid ((Below.refl wr.heap.size wr).alloc (Nat.le_refl _) (.cells (hcs hh) 26))
            have hHb := KB.out
            have PP := Lib.hid (ppeers p L bm o hh _ ((HV3.out.below HT.out.2).below KB.out) hl9 HOK.out hx3)
            have KC := Lib.hid (HT.out.2.trans (hHb.mono HT.out.2.size))
            clear hHb
            go_upto_region 19 with (refine wpl_loadH rfl (.tmp 61) rfl g3 (j * 32) rfl hh hr3 ?_)
            generalize wr.alloc (.cells (hcs hh) 26) = wC at *
            generalize hgc : wr.heap.size = GC at *
            have ld := BH.out
            clear hst hr3
            go_wp2_with (refine wpl_load rfl 26 (.tmp 9) rfl rfl ld Try.underlying26 (by rw [hcs_size]; kernel_rfl) ?_)
            refine PP.out.mono ?_
            rintro e w4 ⟨vp, op, rfl, hrp, hop, hbp⟩
            obtain ⟨qp, cp, rfl, -, -, -⟩ := hrp.form
            have HP := Lib.hid hrp
            have K4 := Lib.hid (KC.out.trans (hbp.mono KC.out.size))
            have HI4 := Lib.hid (HI3.out.keep (X := fun _ => False) (Keep.of_below K4.out) (fun h => h))
            clear hrp hop hbp ld
            have hPn : (saidBy L hh).length ≤ 10000 := by omega
            obtain ⟨P, hP⟩ : ∃ P, P = saidBy L hh := ⟨_, rfl⟩
            rw [← hP] at HP hstep hle hPn ⊢
            have HPP := Lib.hid hP
            clear hP
            go_wp2
            go_loopg [7, 67] P.length (fun gh nn i wx => ∃ u : Nat, u ≤ P.length ∧ nn = .int .i64 ((t + u : Nat) : Int) ∧ i = .int .i64 (u : Int) ∧ gh = P.length - u ∧ Hid (wx = w4))
            case atStart => exact ⟨0, Nat.zero_le _, rfl, rfl, rfl, rfl⟩
            case round =>
              obtain ⟨u, hu, rfl, rfl, hg, HU⟩ := hrel
              have HG3 := Lib.hid hg
              clear hg
              obtain rfl := HU.out
              by_cases hul : u < P.length
              · obtain ⟨gp, capp, _, e1, _, _, hglp, hcell, _⟩ := HP.out.mem (by omega)
                cases e1
                have ck := hcell u (by omega)
                rw [i64s_get _ _ hul] at ck
                have hxin : P.getD u 0 ∈ saidBy L hh := by
                  rw [← HPP.out, List.getD_eq_getElem?_getD, List.getElem?_eq_getElem hul]; exact List.getElem_mem _
                have hlk := HI4.out.look Try.underlying3 Try.underlying27 (zeroBool wr) (saidBy_wf HOK.out hxin)
                rw [fin_val, saidBy_in hxin] at hlk
                generalize P.getD u 0 = xu at *
                clear hcell hxin
                go_wp2
                go_roundg (P.length - (u + 1))
                case measure => rw [HG3.out]; omega
                case rel => exact ⟨u + 1, hul, congrArg (Value.int .i64) (by omega), rfl, rfl, rfl⟩
              · obtain rfl : u = P.length := by omega
                go_wp2
                go_roundg (M.length - (j + 1))
                case measure => rw [HG2.out]; omega
                case rel => exact ⟨j + 1, t + P.length, hjl, by omega, rfl, rfl, rfl, hstep.out.symm, K4.out⟩
          · obtain rfl : j = M.length := by omega
            have htl : t = L.length := by
              have := HT.out.1
              rw [List.take_length, HSUM.out] at this; exact this
            subst htl
            have HV5 := Lib.hid (HV3.out.below HT.out.2)
            have HI5 := Lib.hid (HI3.out.keep (X := fun _ => False) (Keep.of_below HT.out.2) (fun h => h))
            have K5 := Lib.hid (K3.out.trans (HT.out.2.mono K3.out.size))
            have hwf9 : (Lit.int .i64 (-9)).wf = true := by decide
            cases hb9 : vhas L (-9) with
            | true =>
              have PV := Lib.hid (pvote_yes p L bm o (-9) 0 wr HV5.out hwf9 (by omega) hb9)
              have HB9 := Lib.hid hb9
              have hv9 := HB9
              clear hb9
              go_wp2_with (refine wpl_build (ps := #[]) rfl 26 #[] rfl rfl (buildZero _) ?_)
              refine PV.out.mono ?_
              rintro e w6 ⟨rfl, o6, hv6, ho6, hk6⟩
              have hI6 := HI5.out.keep hk6 hinT
              have hlen6 := hI6.len Try.underlying27 3
              have hlk := hI6.look Try.underlying3 Try.underlying27 (zeroBool w6) hwf9
              rw [fin_val, HB9.out] at hlk
              have PHH := phas p L bm o6 (-9) w6 hv6 hwf9
              rw [hv9.out] at PHH
              have PHH := Lib.hid PHH
              have R6 := Lib.hid (K5.out.trans (hk6.below K5.out.size hftT.out))
              clear hv6 ho6 hk6 hI6 PV
              go_wp2_with fail
              refine PHH.out.mono ?_
              rintro e w7 ⟨rfl, hb7⟩
              have R7 := Lib.hid (R6.out.trans (hb7.mono R6.out.size))
              clear hb7
              go_wp2
              go_ret
              exact ⟨rfl, R7.out⟩
            | false =>
              have PV := Lib.hid (pvote_no p L bm o (-9) 0 wr HV5.out hwf9 (by omega) hb9)
              have HB9 := Lib.hid hb9
              have hv9 := Lib.hid (show vhas (L ++ [((-9 : Int), 0)]) (-9) = true from by simp [vhas])
              clear hb9
              go_wp2_with (refine wpl_build (ps := #[]) rfl 26 #[] rfl rfl (buildZero _) ?_)
              refine PV.out.mono ?_
              rintro e w6 ⟨rfl, o6, hv6, ho6, hk6⟩
              have hI6 := HI5.out.keep hk6 hinT
              have hlen6 := hI6.len Try.underlying27 3
              have hlk := hI6.look Try.underlying3 Try.underlying27 (zeroBool w6) hwf9
              rw [fin_val, HB9.out] at hlk
              have PHH := phas p (L ++ [((-9 : Int), 0)]) bm o6 (-9) w6 hv6 hwf9
              rw [hv9.out] at PHH
              have PHH := Lib.hid PHH
              have R6 := Lib.hid (K5.out.trans (hk6.below K5.out.size hftT.out))
              clear hv6 ho6 hk6 hI6 PV
              go_wp2_with fail
              refine PHH.out.mono ?_
              rintro e w7 ⟨rfl, hb7⟩
              have R7 := Lib.hid (R6.out.trans (hb7.mono R6.out.size))
              clear hb7
              go_wp2
              go_ret
              exact ⟨rfl, R7.out⟩
      · have hlk := HS.out.2.1
        cases hb : vhas L x with
        | true =>
          have HB := Lib.hid hb
          clear hb
          cases lv with
          | true =>
            have PL := Lib.hid (pleave_yes p L bm o x wB.drew HV.out.drew hwf (by omega) HS.out.1.1 HB.out)
            go_upto_region 8 with fail
            refine wp_region_held_drew (S := fun w' => Keep (foot3 p bm o) wB w') (by kernel_rfl) ((Keep.refl _ _).drew) (fun hS => ?_)
            refine wpAnyH_take (i := 0) (oi := ⟨_, _, _, _, _, _⟩) (v := ?_) rfl (by kernel_rfl) (by kernel_rfl) (by kernel_rfl) (fun _ _ _ h => h) (Or.inl ⟨by rfl, ?_⟩) hS ?_
            rotate_left
            · intro w0 hs; have hc0 := (hs.cell (p := ⟨GD, 0, none⟩) hgl hnf).trans c0; have hlk := (HI.out.keep hs hin).look Try.underlying3 Try.underlying27 (zeroBool w0) hwf; rw [fin_val, HB.out] at hlk; clear hs; go_simp; try (with_reducible rfl)
            try simp only [Act.put, List.setIfInBounds_toArray, List.set_cons_zero, List.set_cons_succ]
            refine wpAnyH_take (i := 1) (oi := ⟨_, _, _, _, _, _⟩) (v := ?_) rfl (by kernel_rfl) (by kernel_rfl) (by kernel_rfl) (fun _ _ _ h => h) (Or.inl ⟨by rfl, ?_⟩) hS ?_
            rotate_left
            · intro w0 hs; have hc0 := (hs.cell (p := ⟨GD, 0, none⟩) hgl hnf).trans c0; have hlk := (HI.out.keep hs hin).look Try.underlying3 Try.underlying27 (zeroBool w0) hwf; rw [fin_val, HB.out] at hlk; clear hs; go_simp; try (with_reducible rfl)
            try simp only [Act.put, List.setIfInBounds_toArray, List.set_cons_zero, List.set_cons_succ]
            refine wpAnyH_take (i := 2) (oi := ⟨_, _, _, _, _, _⟩) (v := ?_) rfl (by kernel_rfl) (by kernel_rfl) (by kernel_rfl) (fun _ _ _ h => h) (Or.inl ⟨by rfl, ?_⟩) hS ?_
            rotate_left
            · intro w0 hs; have hc0 := (hs.cell (p := ⟨GD, 0, none⟩) hgl hnf).trans c0; have hlk := (HI.out.keep hs hin).look Try.underlying3 Try.underlying27 (zeroBool w0) hwf; rw [fin_val, HB.out] at hlk; clear hs; go_simp; try (with_reducible rfl)
            try simp only [Act.put, List.setIfInBounds_toArray, List.set_cons_zero, List.set_cons_succ]
            refine wpAnyH_take (i := 5) (oi := ⟨_, _, _, _, _, _⟩) (v := ?_) rfl (by kernel_rfl) (by kernel_rfl) (by kernel_rfl) (fun _ _ _ h => h) (Or.inl ⟨by rfl, ?_⟩) hS ?_
            rotate_left
            · intro w0 hs; have hc0 := (hs.cell (p := ⟨GD, 0, none⟩) hgl hnf).trans c0; have hlk := (HI.out.keep hs hin).look Try.underlying3 Try.underlying27 (zeroBool w0) hwf; rw [fin_val, HB.out] at hlk; clear hs; go_simp; try (with_reducible rfl)
            try simp only [Act.put, List.setIfInBounds_toArray, List.set_cons_zero, List.set_cons_succ]
            refine wpAnyH_take (i := 6) (oi := ⟨_, _, _, _, _, _⟩) (v := ?_) rfl (by kernel_rfl) (by kernel_rfl) (by kernel_rfl) (fun _ _ _ h => h) (Or.inl ⟨by rfl, ?_⟩) hS ?_
            rotate_left
            · intro w0 hs; have hc0 := (hs.cell (p := ⟨GD, 0, none⟩) hgl hnf).trans c0; have hlk := (HI.out.keep hs hin).look Try.underlying3 Try.underlying27 (zeroBool w0) hwf; rw [fin_val, HB.out] at hlk; clear hs; go_simp; try (with_reducible rfl)
            try simp only [Act.put, List.setIfInBounds_toArray, List.set_cons_zero, List.set_cons_succ]
            refine wpAnyH_take (i := 7) (oi := ⟨_, _, _, _, _, _⟩) (v := ?_) rfl (by kernel_rfl) (by kernel_rfl) (by kernel_rfl) (fun _ _ _ h => h) (Or.inl ⟨by rfl, ?_⟩) hS ?_
            rotate_left
            · intro w0 hs; have hc0 := (hs.cell (p := ⟨GD, 0, none⟩) hgl hnf).trans c0; have hlk := (HI.out.keep hs hin).look Try.underlying3 Try.underlying27 (zeroBool w0) hwf; rw [fin_val, HB.out] at hlk; clear hs; go_simp; try (with_reducible rfl)
            try simp only [Act.put, List.setIfInBounds_toArray, List.set_cons_zero, List.set_cons_succ]
            refine wpAnyH_take (i := 8) (oi := ⟨_, _, _, _, _, _⟩) (v := ?_) rfl (by kernel_rfl) (by kernel_rfl) (by kernel_rfl) (fun _ _ _ h => h) (Or.inl ⟨by rfl, ?_⟩) hS ?_
            rotate_left
            · intro w0 hs; have hc0 := (hs.cell (p := ⟨GD, 0, none⟩) hgl hnf).trans c0; have hlk := (HI.out.keep hs hin).look Try.underlying3 Try.underlying27 (zeroBool w0) hwf; rw [fin_val, HB.out] at hlk; clear hs; go_simp; try (with_reducible rfl)
            try simp only [Act.put, List.setIfInBounds_toArray, List.set_cons_zero, List.set_cons_succ]
            refine wpAnyH_ready (rs := [3]) (by kernel_rfl) (by simp) ?_
            refine AllReadyH.cons (o := ⟨_, _, _, _, _, _⟩) rfl (fun K hK => ?_) AllReadyH.nil
            rw [if_pos (by rfl)]
            go_step
            refine PL.out.mono ?_
            rintro e w1 ⟨rfl, o2, hv2, ho2, hk2⟩
            simp only []
            refine hK.out _ _ ((Keep.refl _ wB).drew.trans hk2) (fun hS' => ?_)
            clear hS hK
            have hS := hS'; clear hS'
            try simp only [Act.put, List.setIfInBounds_toArray, List.set_cons_zero, List.set_cons_succ]
            refine wpAnyH_take (i := 4) (oi := ⟨_, _, _, _, _, _⟩) (v := ?_) rfl (by kernel_rfl) (by kernel_rfl) (by kernel_rfl) (fun _ _ _ h => h) (Or.inl ⟨by rfl, ?_⟩) hS ?_
            rotate_left
            · intro w0 hs; have hc0 := (hs.cell (p := ⟨GD, 0, none⟩) hgl hnf).trans c0; have hlk := (HI.out.keep hs hin).look Try.underlying3 Try.underlying27 (zeroBool w0) hwf; rw [fin_val, HB.out] at hlk; clear hs; go_simp; try (with_reducible rfl)
            try simp only [Act.put, List.setIfInBounds_toArray, List.set_cons_zero, List.set_cons_succ]
            refine wpAnyH_take (i := 9) (oi := ⟨_, _, _, _, _, _⟩) (v := ?_) rfl (by kernel_rfl) (by kernel_rfl) (by kernel_rfl) (fun _ _ _ h => h) (Or.inl ⟨by rfl, ?_⟩) hS ?_
            rotate_left
            · intro w0 hs; have hc0 := (hs.cell (p := ⟨GD, 0, none⟩) hgl hnf).trans c0; have hlk := (HI.out.keep hs hin).look Try.underlying3 Try.underlying27 (zeroBool w0) hwf; rw [fin_val, HB.out] at hlk; clear hs; go_simp; try (with_reducible rfl)
            try simp only [Act.put, List.setIfInBounds_toArray, List.set_cons_zero, List.set_cons_succ]
            refine wpAnyH_done (by kernel_rfl) ?_ _
            obtain ⟨w5, hrun, m5, k5⟩ := (HI.out.keep hS hin).drop Try.underlying3 Try.underlying27 hwf 0
            rw [fin_some, HB.out, ← fin_del] at m5
            have e5 : (if true = true then L.length - 1 else L.length) = (vdel L x).length := by
              rw [vdel_cut HS.out.1.1 HB.out]; rfl
            rw [e5] at m5
            have c1 := (hS.cell (p := ⟨GD, 0, none⟩) hgl hnf).trans c0
            have R5 := Lib.hid (And.intro m5 (And.intro k5 (And.intro hS (And.intro hv2 ho2))))
            clear m5 k5 hS hv2 ho2 hk2 PL e5 ch c0 c33
            go_wp2
            go_roundg (len - (k + 1))
            case measure => rw [HG.out]; omega
            case rel =>
              obtain ⟨m5, k5, hS, hv2, ho2⟩ := R5.out
              obtain ⟨hok, _, ho, hbw⟩ := HS.out
              have b1 := K1.out.trans (hS.below K1.out.size (fun g h => by
                rcases h with rfl | rfl | h
                · exact hp
                · exact hbm
                · exact (ho _ h).1))
              have ho3 : ∀ g, o2 = some g → W.heap.size ≤ g ∧ g ≠ bi := fun g h => by
                rcases ho2 g h with h | h
                · exact ho g h
                · have h : wB.heap.size ≤ g := h
                  have := K1.out.size
                  exact ⟨by omega, by omega⟩
              refine ⟨k + 1, hlt, by omega, rfl, rfl, (vdel L x), o2, hv2.keep k5 (fun g h e => ?_), m5, VL.ok_del HS.out.1 x, by have := vdel_le L x; omega, ho3, b1.trans (k5.below b1.size (fun g h => by rw [h]; exact hbi))⟩
              rcases h with h | h | h
              · omega
              · omega
              · exact (ho3 g h).2 e
          | false =>
            have PL := Lib.hid (pvote_yes p L bm o x n wB.drew HV.out.drew hwf (by omega) HB.out)
            go_upto_region 11 with fail
            refine wp_region_held_drew (S := fun w' => Keep (foot3 p bm o) wB w') (by kernel_rfl) ((Keep.refl _ _).drew) (fun hS => ?_)
            refine wpAnyH_take (i := 0) (oi := ⟨_, _, _, _, _, _⟩) (v := ?_) rfl (by kernel_rfl) (by kernel_rfl) (by kernel_rfl) (fun _ _ _ h => h) (Or.inl ⟨by rfl, ?_⟩) hS ?_
            rotate_left
            · intro w0 hs; have hc0 := (hs.cell (p := ⟨GD, 0, none⟩) hgl hnf).trans c0; have hlk := (HI.out.keep hs hin).look Try.underlying3 Try.underlying27 (zeroBool w0) hwf; rw [fin_val, HB.out] at hlk; clear hs; go_simp; try (with_reducible rfl)
            try simp only [Act.put, List.setIfInBounds_toArray, List.set_cons_zero, List.set_cons_succ]
            refine wpAnyH_take (i := 1) (oi := ⟨_, _, _, _, _, _⟩) (v := ?_) rfl (by kernel_rfl) (by kernel_rfl) (by kernel_rfl) (fun _ _ _ h => h) (Or.inl ⟨by rfl, ?_⟩) hS ?_
            rotate_left
            · intro w0 hs; have hc0 := (hs.cell (p := ⟨GD, 0, none⟩) hgl hnf).trans c0; have hlk := (HI.out.keep hs hin).look Try.underlying3 Try.underlying27 (zeroBool w0) hwf; rw [fin_val, HB.out] at hlk; clear hs; go_simp; try (with_reducible rfl)
            try simp only [Act.put, List.setIfInBounds_toArray, List.set_cons_zero, List.set_cons_succ]
            refine wpAnyH_take (i := 2) (oi := ⟨_, _, _, _, _, _⟩) (v := ?_) rfl (by kernel_rfl) (by kernel_rfl) (by kernel_rfl) (fun _ _ _ h => h) (Or.inl ⟨by rfl, ?_⟩) hS ?_
            rotate_left
            · intro w0 hs; have hc0 := (hs.cell (p := ⟨GD, 0, none⟩) hgl hnf).trans c0; have hlk := (HI.out.keep hs hin).look Try.underlying3 Try.underlying27 (zeroBool w0) hwf; rw [fin_val, HB.out] at hlk; clear hs; go_simp; try (with_reducible rfl)
            try simp only [Act.put, List.setIfInBounds_toArray, List.set_cons_zero, List.set_cons_succ]
            refine wpAnyH_take (i := 3) (oi := ⟨_, _, _, _, _, _⟩) (v := ?_) rfl (by kernel_rfl) (by kernel_rfl) (by kernel_rfl) (fun _ _ _ h => h) (Or.inl ⟨by rfl, ?_⟩) hS ?_
            rotate_left
            · intro w0 hs; have hc0 := (hs.cell (p := ⟨GD, 0, none⟩) hgl hnf).trans c0; have hlk := (HI.out.keep hs hin).look Try.underlying3 Try.underlying27 (zeroBool w0) hwf; rw [fin_val, HB.out] at hlk; clear hs; go_simp; try (with_reducible rfl)
            try simp only [Act.put, List.setIfInBounds_toArray, List.set_cons_zero, List.set_cons_succ]
            refine wpAnyH_take (i := 4) (oi := ⟨_, _, _, _, _, _⟩) (v := hv n) rfl (by kernel_rfl) (by kernel_rfl) (by kernel_rfl) (fun _ _ _ h => h) (yieldsIf_load_mid (by rfl) 26 (.tmp 43) rfl GD 1 rfl (hls n) (.array 32 5) (fun _ hs j v hv => (hs.cell (p := ⟨GD, _, none⟩) hgl hnf).trans (ch j v hv)) Try.underlying26 rfl LDI) hS ?_
            try simp only [Act.put, List.setIfInBounds_toArray, List.set_cons_zero, List.set_cons_succ]
            refine wpAnyH_take (i := 7) (oi := ⟨_, _, _, _, _, _⟩) (v := ?_) rfl (by kernel_rfl) (by kernel_rfl) (by kernel_rfl) (fun _ _ _ h => h) (Or.inl ⟨by rfl, ?_⟩) hS ?_
            rotate_left
            · intro w0 hs; have hc0 := (hs.cell (p := ⟨GD, 0, none⟩) hgl hnf).trans c0; have hlk := (HI.out.keep hs hin).look Try.underlying3 Try.underlying27 (zeroBool w0) hwf; rw [fin_val, HB.out] at hlk; clear hs; go_simp; try (with_reducible rfl)
            try simp only [Act.put, List.setIfInBounds_toArray, List.set_cons_zero, List.set_cons_succ]
            refine wpAnyH_take (i := 8) (oi := ⟨_, _, _, _, _, _⟩) (v := ?_) rfl (by kernel_rfl) (by kernel_rfl) (by kernel_rfl) (fun _ _ _ h => h) (Or.inl ⟨by rfl, ?_⟩) hS ?_
            rotate_left
            · intro w0 hs; have hc0 := (hs.cell (p := ⟨GD, 0, none⟩) hgl hnf).trans c0; have hlk := (HI.out.keep hs hin).look Try.underlying3 Try.underlying27 (zeroBool w0) hwf; rw [fin_val, HB.out] at hlk; clear hs; go_simp; try (with_reducible rfl)
            try simp only [Act.put, List.setIfInBounds_toArray, List.set_cons_zero, List.set_cons_succ]
            refine wpAnyH_take (i := 9) (oi := ⟨_, _, _, _, _, _⟩) (v := ?_) rfl (by kernel_rfl) (by kernel_rfl) (by kernel_rfl) (fun _ _ _ h => h) (Or.inl ⟨by rfl, ?_⟩) hS ?_
            rotate_left
            · intro w0 hs; have hc0 := (hs.cell (p := ⟨GD, 0, none⟩) hgl hnf).trans c0; have hlk := (HI.out.keep hs hin).look Try.underlying3 Try.underlying27 (zeroBool w0) hwf; rw [fin_val, HB.out] at hlk; clear hs; go_simp; try (with_reducible rfl)
            try simp only [Act.put, List.setIfInBounds_toArray, List.set_cons_zero, List.set_cons_succ]
            refine wpAnyH_take (i := 10) (oi := ⟨_, _, _, _, _, _⟩) (v := ?_) rfl (by kernel_rfl) (by kernel_rfl) (by kernel_rfl) (fun _ _ _ h => h) (Or.inl ⟨by rfl, ?_⟩) hS ?_
            rotate_left
            · intro w0 hs; have hc0 := (hs.cell (p := ⟨GD, 0, none⟩) hgl hnf).trans c0; have hlk := (HI.out.keep hs hin).look Try.underlying3 Try.underlying27 (zeroBool w0) hwf; rw [fin_val, HB.out] at hlk; clear hs; go_simp; try (with_reducible rfl)
            try simp only [Act.put, List.setIfInBounds_toArray, List.set_cons_zero, List.set_cons_succ]
            refine wpAnyH_ready (rs := [5]) (by kernel_rfl) (by simp) ?_
            refine AllReadyH.cons (o := ⟨_, _, _, _, _, _⟩) rfl (fun K hK => ?_) AllReadyH.nil
            rw [if_pos (by rfl)]
            go_step
            refine PL.out.mono ?_
            rintro e w1 ⟨rfl, o2, hv2, ho2, hk2⟩
            simp only []
            refine hK.out _ _ ((Keep.refl _ wB).drew.trans hk2) (fun hS' => ?_)
            clear hS hK
            have hS := hS'; clear hS'
            try simp only [Act.put, List.setIfInBounds_toArray, List.set_cons_zero, List.set_cons_succ]
            refine wpAnyH_take (i := 6) (oi := ⟨_, _, _, _, _, _⟩) (v := ?_) rfl (by kernel_rfl) (by kernel_rfl) (by kernel_rfl) (fun _ _ _ h => h) (Or.inl ⟨by rfl, ?_⟩) hS ?_
            rotate_left
            · intro w0 hs; have hc0 := (hs.cell (p := ⟨GD, 0, none⟩) hgl hnf).trans c0; have hlk := (HI.out.keep hs hin).look Try.underlying3 Try.underlying27 (zeroBool w0) hwf; rw [fin_val, HB.out] at hlk; clear hs; go_simp; try (with_reducible rfl)
            try simp only [Act.put, List.setIfInBounds_toArray, List.set_cons_zero, List.set_cons_succ]
            refine wpAnyH_take (i := 11) (oi := ⟨_, _, _, _, _, _⟩) (v := ?_) rfl (by kernel_rfl) (by kernel_rfl) (by kernel_rfl) (fun _ _ _ h => h) (Or.inl ⟨by rfl, ?_⟩) hS ?_
            rotate_left
            · intro w0 hs; have hc0 := (hs.cell (p := ⟨GD, 0, none⟩) hgl hnf).trans c0; have hlk := (HI.out.keep hs hin).look Try.underlying3 Try.underlying27 (zeroBool w0) hwf; rw [fin_val, HB.out] at hlk; clear hs; go_simp; try (with_reducible rfl)
            try simp only [Act.put, List.setIfInBounds_toArray, List.set_cons_zero, List.set_cons_succ]
            refine wpAnyH_done (by kernel_rfl) ?_ _
            obtain ⟨w5, hrun, m5, k5⟩ := (HI.out.keep hS hin).store Try.underlying3 Try.underlying27 (by unfold maxLen; omega) hwf (.bool true)
            rw [fin_some, HB.out, fin_same HB.out] at m5
            have e5 : (if true = true then L.length else L.length + 1) = L.length := by simp
            rw [e5] at m5
            have c1 := (hS.cell (p := ⟨GD, 0, none⟩) hgl hnf).trans c0
            have R5 := Lib.hid (And.intro m5 (And.intro k5 (And.intro hS (And.intro hv2 ho2))))
            clear m5 k5 hS hv2 ho2 hk2 PL e5 ch c0 c33
            go_wp2
            go_roundg (len - (k + 1))
            case measure => rw [HG.out]; omega
            case rel =>
              obtain ⟨m5, k5, hS, hv2, ho2⟩ := R5.out
              obtain ⟨hok, _, ho, hbw⟩ := HS.out
              have b1 := K1.out.trans (hS.below K1.out.size (fun g h => by
                rcases h with rfl | rfl | h
                · exact hp
                · exact hbm
                · exact (ho _ h).1))
              have ho3 : ∀ g, o2 = some g → W.heap.size ≤ g ∧ g ≠ bi := fun g h => by
                rcases ho2 g h with h | h
                · exact ho g h
                · have h : wB.heap.size ≤ g := h
                  have := K1.out.size
                  exact ⟨by omega, by omega⟩
              refine ⟨k + 1, hlt, by omega, rfl, rfl, L, o2, hv2.keep k5 (fun g h e => ?_), m5, HS.out.1, by omega, ho3, b1.trans (k5.below b1.size (fun g h => by rw [h]; exact hbi))⟩
              rcases h with h | h | h
              · omega
              · omega
              · exact (ho3 g h).2 e
        | false =>
          have HB := Lib.hid hb
          clear hb
          cases lv with
          | true =>
            have PL := Lib.hid (pleave_no p L bm o x wB.drew HV.out.drew hwf (by omega) HS.out.1.1 HB.out)
            go_upto_region 8 with fail
            refine wp_region_held_drew (S := fun w' => Keep (foot3 p bm o) wB w') (by kernel_rfl) ((Keep.refl _ _).drew) (fun hS => ?_)
            refine wpAnyH_take (i := 0) (oi := ⟨_, _, _, _, _, _⟩) (v := ?_) rfl (by kernel_rfl) (by kernel_rfl) (by kernel_rfl) (fun _ _ _ h => h) (Or.inl ⟨by rfl, ?_⟩) hS ?_
            rotate_left
            · intro w0 hs; have hc0 := (hs.cell (p := ⟨GD, 0, none⟩) hgl hnf).trans c0; have hlk := (HI.out.keep hs hin).look Try.underlying3 Try.underlying27 (zeroBool w0) hwf; rw [fin_val, HB.out] at hlk; clear hs; go_simp; try (with_reducible rfl)
            try simp only [Act.put, List.setIfInBounds_toArray, List.set_cons_zero, List.set_cons_succ]
            refine wpAnyH_take (i := 1) (oi := ⟨_, _, _, _, _, _⟩) (v := ?_) rfl (by kernel_rfl) (by kernel_rfl) (by kernel_rfl) (fun _ _ _ h => h) (Or.inl ⟨by rfl, ?_⟩) hS ?_
            rotate_left
            · intro w0 hs; have hc0 := (hs.cell (p := ⟨GD, 0, none⟩) hgl hnf).trans c0; have hlk := (HI.out.keep hs hin).look Try.underlying3 Try.underlying27 (zeroBool w0) hwf; rw [fin_val, HB.out] at hlk; clear hs; go_simp; try (with_reducible rfl)
            try simp only [Act.put, List.setIfInBounds_toArray, List.set_cons_zero, List.set_cons_succ]
            refine wpAnyH_take (i := 2) (oi := ⟨_, _, _, _, _, _⟩) (v := ?_) rfl (by kernel_rfl) (by kernel_rfl) (by kernel_rfl) (fun _ _ _ h => h) (Or.inl ⟨by rfl, ?_⟩) hS ?_
            rotate_left
            · intro w0 hs; have hc0 := (hs.cell (p := ⟨GD, 0, none⟩) hgl hnf).trans c0; have hlk := (HI.out.keep hs hin).look Try.underlying3 Try.underlying27 (zeroBool w0) hwf; rw [fin_val, HB.out] at hlk; clear hs; go_simp; try (with_reducible rfl)
            try simp only [Act.put, List.setIfInBounds_toArray, List.set_cons_zero, List.set_cons_succ]
            refine wpAnyH_take (i := 5) (oi := ⟨_, _, _, _, _, _⟩) (v := ?_) rfl (by kernel_rfl) (by kernel_rfl) (by kernel_rfl) (fun _ _ _ h => h) (Or.inl ⟨by rfl, ?_⟩) hS ?_
            rotate_left
            · intro w0 hs; have hc0 := (hs.cell (p := ⟨GD, 0, none⟩) hgl hnf).trans c0; have hlk := (HI.out.keep hs hin).look Try.underlying3 Try.underlying27 (zeroBool w0) hwf; rw [fin_val, HB.out] at hlk; clear hs; go_simp; try (with_reducible rfl)
            try simp only [Act.put, List.setIfInBounds_toArray, List.set_cons_zero, List.set_cons_succ]
            refine wpAnyH_take (i := 6) (oi := ⟨_, _, _, _, _, _⟩) (v := ?_) rfl (by kernel_rfl) (by kernel_rfl) (by kernel_rfl) (fun _ _ _ h => h) (Or.inl ⟨by rfl, ?_⟩) hS ?_
            rotate_left
            · intro w0 hs; have hc0 := (hs.cell (p := ⟨GD, 0, none⟩) hgl hnf).trans c0; have hlk := (HI.out.keep hs hin).look Try.underlying3 Try.underlying27 (zeroBool w0) hwf; rw [fin_val, HB.out] at hlk; clear hs; go_simp; try (with_reducible rfl)
            try simp only [Act.put, List.setIfInBounds_toArray, List.set_cons_zero, List.set_cons_succ]
            refine wpAnyH_take (i := 7) (oi := ⟨_, _, _, _, _, _⟩) (v := ?_) rfl (by kernel_rfl) (by kernel_rfl) (by kernel_rfl) (fun _ _ _ h => h) (Or.inl ⟨by rfl, ?_⟩) hS ?_
            rotate_left
            · intro w0 hs; have hc0 := (hs.cell (p := ⟨GD, 0, none⟩) hgl hnf).trans c0; have hlk := (HI.out.keep hs hin).look Try.underlying3 Try.underlying27 (zeroBool w0) hwf; rw [fin_val, HB.out] at hlk; clear hs; go_simp; try (with_reducible rfl)
            try simp only [Act.put, List.setIfInBounds_toArray, List.set_cons_zero, List.set_cons_succ]
            refine wpAnyH_take (i := 8) (oi := ⟨_, _, _, _, _, _⟩) (v := ?_) rfl (by kernel_rfl) (by kernel_rfl) (by kernel_rfl) (fun _ _ _ h => h) (Or.inl ⟨by rfl, ?_⟩) hS ?_
            rotate_left
            · intro w0 hs; have hc0 := (hs.cell (p := ⟨GD, 0, none⟩) hgl hnf).trans c0; have hlk := (HI.out.keep hs hin).look Try.underlying3 Try.underlying27 (zeroBool w0) hwf; rw [fin_val, HB.out] at hlk; clear hs; go_simp; try (with_reducible rfl)
            try simp only [Act.put, List.setIfInBounds_toArray, List.set_cons_zero, List.set_cons_succ]
            refine wpAnyH_ready (rs := [3]) (by kernel_rfl) (by simp) ?_
            refine AllReadyH.cons (o := ⟨_, _, _, _, _, _⟩) rfl (fun K hK => ?_) AllReadyH.nil
            rw [if_pos (by rfl)]
            go_step
            refine PL.out.mono ?_
            rintro e w1 ⟨rfl, o2, hv2, ho2, hk2⟩
            simp only []
            refine hK.out _ _ ((Keep.refl _ wB).drew.trans hk2) (fun hS' => ?_)
            clear hS hK
            have hS := hS'; clear hS'
            try simp only [Act.put, List.setIfInBounds_toArray, List.set_cons_zero, List.set_cons_succ]
            refine wpAnyH_take (i := 4) (oi := ⟨_, _, _, _, _, _⟩) (v := ?_) rfl (by kernel_rfl) (by kernel_rfl) (by kernel_rfl) (fun _ _ _ h => h) (Or.inl ⟨by rfl, ?_⟩) hS ?_
            rotate_left
            · intro w0 hs; have hc0 := (hs.cell (p := ⟨GD, 0, none⟩) hgl hnf).trans c0; have hlk := (HI.out.keep hs hin).look Try.underlying3 Try.underlying27 (zeroBool w0) hwf; rw [fin_val, HB.out] at hlk; clear hs; go_simp; try (with_reducible rfl)
            try simp only [Act.put, List.setIfInBounds_toArray, List.set_cons_zero, List.set_cons_succ]
            refine wpAnyH_take (i := 9) (oi := ⟨_, _, _, _, _, _⟩) (v := ?_) rfl (by kernel_rfl) (by kernel_rfl) (by kernel_rfl) (fun _ _ _ h => h) (Or.inl ⟨by rfl, ?_⟩) hS ?_
            rotate_left
            · intro w0 hs; have hc0 := (hs.cell (p := ⟨GD, 0, none⟩) hgl hnf).trans c0; have hlk := (HI.out.keep hs hin).look Try.underlying3 Try.underlying27 (zeroBool w0) hwf; rw [fin_val, HB.out] at hlk; clear hs; go_simp; try (with_reducible rfl)
            try simp only [Act.put, List.setIfInBounds_toArray, List.set_cons_zero, List.set_cons_succ]
            refine wpAnyH_done (by kernel_rfl) ?_ _
            obtain ⟨w5, hrun, m5, k5⟩ := (HI.out.keep hS hin).drop Try.underlying3 Try.underlying27 hwf 0
            rw [fin_some, HB.out, ← fin_del] at m5
            have e5 : (if false = true then L.length - 1 else L.length) = (vdel L x).length := by
              rw [vdel_absent HB.out]; rfl
            rw [e5] at m5
            have c1 := (hS.cell (p := ⟨GD, 0, none⟩) hgl hnf).trans c0
            have R5 := Lib.hid (And.intro m5 (And.intro k5 (And.intro hS (And.intro hv2 ho2))))
            clear m5 k5 hS hv2 ho2 hk2 PL e5 ch c0 c33
            go_wp2
            go_roundg (len - (k + 1))
            case measure => rw [HG.out]; omega
            case rel =>
              obtain ⟨m5, k5, hS, hv2, ho2⟩ := R5.out
              obtain ⟨hok, _, ho, hbw⟩ := HS.out
              have b1 := K1.out.trans (hS.below K1.out.size (fun g h => by
                rcases h with rfl | rfl | h
                · exact hp
                · exact hbm
                · exact (ho _ h).1))
              have ho3 : ∀ g, o2 = some g → W.heap.size ≤ g ∧ g ≠ bi := fun g h => by
                rcases ho2 g h with h | h
                · exact ho g h
                · have h : wB.heap.size ≤ g := h
                  have := K1.out.size
                  exact ⟨by omega, by omega⟩
              refine ⟨k + 1, hlt, by omega, rfl, rfl, (vdel L x), o2, hv2.keep k5 (fun g h e => ?_), m5, VL.ok_del HS.out.1 x, by have := vdel_le L x; omega, ho3, b1.trans (k5.below b1.size (fun g h => by rw [h]; exact hbi))⟩
              rcases h with h | h | h
              · omega
              · omega
              · exact (ho3 g h).2 e
          | false =>
            have PL := Lib.hid (pvote_no p L bm o x n wB.drew HV.out.drew hwf (by omega) HB.out)
            go_upto_region 11 with fail
            refine wp_region_held_drew (S := fun w' => Keep (foot3 p bm o) wB w') (by kernel_rfl) ((Keep.refl _ _).drew) (fun hS => ?_)
            refine wpAnyH_take (i := 0) (oi := ⟨_, _, _, _, _, _⟩) (v := ?_) rfl (by kernel_rfl) (by kernel_rfl) (by kernel_rfl) (fun _ _ _ h => h) (Or.inl ⟨by rfl, ?_⟩) hS ?_
            rotate_left
            · intro w0 hs; have hc0 := (hs.cell (p := ⟨GD, 0, none⟩) hgl hnf).trans c0; have hlk := (HI.out.keep hs hin).look Try.underlying3 Try.underlying27 (zeroBool w0) hwf; rw [fin_val, HB.out] at hlk; clear hs; go_simp; try (with_reducible rfl)
            try simp only [Act.put, List.setIfInBounds_toArray, List.set_cons_zero, List.set_cons_succ]
            refine wpAnyH_take (i := 1) (oi := ⟨_, _, _, _, _, _⟩) (v := ?_) rfl (by kernel_rfl) (by kernel_rfl) (by kernel_rfl) (fun _ _ _ h => h) (Or.inl ⟨by rfl, ?_⟩) hS ?_
            rotate_left
            · intro w0 hs; have hc0 := (hs.cell (p := ⟨GD, 0, none⟩) hgl hnf).trans c0; have hlk := (HI.out.keep hs hin).look Try.underlying3 Try.underlying27 (zeroBool w0) hwf; rw [fin_val, HB.out] at hlk; clear hs; go_simp; try (with_reducible rfl)
            try simp only [Act.put, List.setIfInBounds_toArray, List.set_cons_zero, List.set_cons_succ]
            refine wpAnyH_take (i := 2) (oi := ⟨_, _, _, _, _, _⟩) (v := ?_) rfl (by kernel_rfl) (by kernel_rfl) (by kernel_rfl) (fun _ _ _ h => h) (Or.inl ⟨by rfl, ?_⟩) hS ?_
            rotate_left
            · intro w0 hs; have hc0 := (hs.cell (p := ⟨GD, 0, none⟩) hgl hnf).trans c0; have hlk := (HI.out.keep hs hin).look Try.underlying3 Try.underlying27 (zeroBool w0) hwf; rw [fin_val, HB.out] at hlk; clear hs; go_simp; try (with_reducible rfl)
            try simp only [Act.put, List.setIfInBounds_toArray, List.set_cons_zero, List.set_cons_succ]
            refine wpAnyH_take (i := 3) (oi := ⟨_, _, _, _, _, _⟩) (v := ?_) rfl (by kernel_rfl) (by kernel_rfl) (by kernel_rfl) (fun _ _ _ h => h) (Or.inl ⟨by rfl, ?_⟩) hS ?_
            rotate_left
            · intro w0 hs; have hc0 := (hs.cell (p := ⟨GD, 0, none⟩) hgl hnf).trans c0; have hlk := (HI.out.keep hs hin).look Try.underlying3 Try.underlying27 (zeroBool w0) hwf; rw [fin_val, HB.out] at hlk; clear hs; go_simp; try (with_reducible rfl)
            try simp only [Act.put, List.setIfInBounds_toArray, List.set_cons_zero, List.set_cons_succ]
            refine wpAnyH_take (i := 4) (oi := ⟨_, _, _, _, _, _⟩) (v := hv n) rfl (by kernel_rfl) (by kernel_rfl) (by kernel_rfl) (fun _ _ _ h => h) (yieldsIf_load_mid (by rfl) 26 (.tmp 43) rfl GD 1 rfl (hls n) (.array 32 5) (fun _ hs j v hv => (hs.cell (p := ⟨GD, _, none⟩) hgl hnf).trans (ch j v hv)) Try.underlying26 rfl LDI) hS ?_
            try simp only [Act.put, List.setIfInBounds_toArray, List.set_cons_zero, List.set_cons_succ]
            refine wpAnyH_take (i := 7) (oi := ⟨_, _, _, _, _, _⟩) (v := ?_) rfl (by kernel_rfl) (by kernel_rfl) (by kernel_rfl) (fun _ _ _ h => h) (Or.inl ⟨by rfl, ?_⟩) hS ?_
            rotate_left
            · intro w0 hs; have hc0 := (hs.cell (p := ⟨GD, 0, none⟩) hgl hnf).trans c0; have hlk := (HI.out.keep hs hin).look Try.underlying3 Try.underlying27 (zeroBool w0) hwf; rw [fin_val, HB.out] at hlk; clear hs; go_simp; try (with_reducible rfl)
            try simp only [Act.put, List.setIfInBounds_toArray, List.set_cons_zero, List.set_cons_succ]
            refine wpAnyH_take (i := 8) (oi := ⟨_, _, _, _, _, _⟩) (v := ?_) rfl (by kernel_rfl) (by kernel_rfl) (by kernel_rfl) (fun _ _ _ h => h) (Or.inl ⟨by rfl, ?_⟩) hS ?_
            rotate_left
            · intro w0 hs; have hc0 := (hs.cell (p := ⟨GD, 0, none⟩) hgl hnf).trans c0; have hlk := (HI.out.keep hs hin).look Try.underlying3 Try.underlying27 (zeroBool w0) hwf; rw [fin_val, HB.out] at hlk; clear hs; go_simp; try (with_reducible rfl)
            try simp only [Act.put, List.setIfInBounds_toArray, List.set_cons_zero, List.set_cons_succ]
            refine wpAnyH_take (i := 9) (oi := ⟨_, _, _, _, _, _⟩) (v := ?_) rfl (by kernel_rfl) (by kernel_rfl) (by kernel_rfl) (fun _ _ _ h => h) (Or.inl ⟨by rfl, ?_⟩) hS ?_
            rotate_left
            · intro w0 hs; have hc0 := (hs.cell (p := ⟨GD, 0, none⟩) hgl hnf).trans c0; have hlk := (HI.out.keep hs hin).look Try.underlying3 Try.underlying27 (zeroBool w0) hwf; rw [fin_val, HB.out] at hlk; clear hs; go_simp; try (with_reducible rfl)
            try simp only [Act.put, List.setIfInBounds_toArray, List.set_cons_zero, List.set_cons_succ]
            refine wpAnyH_take (i := 10) (oi := ⟨_, _, _, _, _, _⟩) (v := ?_) rfl (by kernel_rfl) (by kernel_rfl) (by kernel_rfl) (fun _ _ _ h => h) (Or.inl ⟨by rfl, ?_⟩) hS ?_
            rotate_left
            · intro w0 hs; have hc0 := (hs.cell (p := ⟨GD, 0, none⟩) hgl hnf).trans c0; have hlk := (HI.out.keep hs hin).look Try.underlying3 Try.underlying27 (zeroBool w0) hwf; rw [fin_val, HB.out] at hlk; clear hs; go_simp; try (with_reducible rfl)
            try simp only [Act.put, List.setIfInBounds_toArray, List.set_cons_zero, List.set_cons_succ]
            refine wpAnyH_ready (rs := [5]) (by kernel_rfl) (by simp) ?_
            refine AllReadyH.cons (o := ⟨_, _, _, _, _, _⟩) rfl (fun K hK => ?_) AllReadyH.nil
            rw [if_pos (by rfl)]
            go_step
            refine PL.out.mono ?_
            rintro e w1 ⟨rfl, o2, hv2, ho2, hk2⟩
            simp only []
            refine hK.out _ _ ((Keep.refl _ wB).drew.trans hk2) (fun hS' => ?_)
            clear hS hK
            have hS := hS'; clear hS'
            try simp only [Act.put, List.setIfInBounds_toArray, List.set_cons_zero, List.set_cons_succ]
            refine wpAnyH_take (i := 6) (oi := ⟨_, _, _, _, _, _⟩) (v := ?_) rfl (by kernel_rfl) (by kernel_rfl) (by kernel_rfl) (fun _ _ _ h => h) (Or.inl ⟨by rfl, ?_⟩) hS ?_
            rotate_left
            · intro w0 hs; have hc0 := (hs.cell (p := ⟨GD, 0, none⟩) hgl hnf).trans c0; have hlk := (HI.out.keep hs hin).look Try.underlying3 Try.underlying27 (zeroBool w0) hwf; rw [fin_val, HB.out] at hlk; clear hs; go_simp; try (with_reducible rfl)
            try simp only [Act.put, List.setIfInBounds_toArray, List.set_cons_zero, List.set_cons_succ]
            refine wpAnyH_take (i := 11) (oi := ⟨_, _, _, _, _, _⟩) (v := ?_) rfl (by kernel_rfl) (by kernel_rfl) (by kernel_rfl) (fun _ _ _ h => h) (Or.inl ⟨by rfl, ?_⟩) hS ?_
            rotate_left
            · intro w0 hs; have hc0 := (hs.cell (p := ⟨GD, 0, none⟩) hgl hnf).trans c0; have hlk := (HI.out.keep hs hin).look Try.underlying3 Try.underlying27 (zeroBool w0) hwf; rw [fin_val, HB.out] at hlk; clear hs; go_simp; try (with_reducible rfl)
            try simp only [Act.put, List.setIfInBounds_toArray, List.set_cons_zero, List.set_cons_succ]
            refine wpAnyH_done (by kernel_rfl) ?_ _
            obtain ⟨w5, hrun, m5, k5⟩ := (HI.out.keep hS hin).store Try.underlying3 Try.underlying27 (by unfold maxLen; omega) hwf (.bool true)
            rw [fin_some, HB.out, ← fin_snoc L x n] at m5
            have e5 : (if false = true then L.length else L.length + 1) = (L ++ [(x, n)]).length := by simp
            rw [e5] at m5
            have c1 := (hS.cell (p := ⟨GD, 0, none⟩) hgl hnf).trans c0
            have R5 := Lib.hid (And.intro m5 (And.intro k5 (And.intro hS (And.intro hv2 ho2))))
            clear m5 k5 hS hv2 ho2 hk2 PL e5 ch c0 c33
            go_wp2
            go_roundg (len - (k + 1))
            case measure => rw [HG.out]; omega
            case rel =>
              obtain ⟨m5, k5, hS, hv2, ho2⟩ := R5.out
              obtain ⟨hok, _, ho, hbw⟩ := HS.out
              have b1 := K1.out.trans (hS.below K1.out.size (fun g h => by
                rcases h with rfl | rfl | h
                · exact hp
                · exact hbm
                · exact (ho _ h).1))
              have ho3 : ∀ g, o2 = some g → W.heap.size ≤ g ∧ g ≠ bi := fun g h => by
                rcases ho2 g h with h | h
                · exact ho g h
                · have h : wB.heap.size ≤ g := h
                  have := K1.out.size
                  exact ⟨by omega, by omega⟩
              refine ⟨k + 1, hlt, by omega, rfl, rfl, (L ++ [(x, n)]), o2, hv2.keep k5 (fun g h e => ?_), m5, VL.ok_snoc HS.out.1 hwf hnn HB.out, by simp; omega, ho3, b1.trans (k5.below b1.size (fun g h => by rw [h]; exact hbi))⟩
              rcases h with h | h | h
              · omega
              · omega
              · exact (ho3 g h).2 e
    · obtain rfl : k = len := by omega
      have HVT := Lib.hid hV
      have HIT := Lib.hid hI
      have HOK := Lib.hid hok
      have KT := Lib.hid hbw
      have hinT : ¬ foot3 p bm o bi := by
        rintro (h | h | h)
        · omega
        · omega
        · exact (ho _ h).2 rfl
      have HS := Lib.hid (And.intro hok (And.intro hlk (And.intro ho hbw)))
      have hftT := Lib.hid (show ∀ g, foot3 p bm o g → W.heap.size ≤ g from fun g h => by
        rcases h with rfl | rfl | h
        · exact hp
        · exact hbm
        · exact (HS.out.2.2.1 _ h).1)
      clear hV hI hok ho hbw
      have hl9 : L.length ≤ 10000 := by omega
      have PS := Lib.hid (psums p L bm o wr HVT.out hl9 HOK.out)
      go_wp2_with fail
      refine PS.out.mono ?_
      rintro e w3 ⟨vs, o3, rfl, hr3, ho3, hb3⟩
      obtain ⟨M, hM⟩ : ∃ M, M = once (L.map Prod.snd) := ⟨_, rfl⟩
      rw [← hM] at hr3
      have HMM := Lib.hid hM
      have hsum := saidBy_cover L
      rw [← hM] at hsum
      have HSUM := Lib.hid hsum
      have hMl : M.length ≤ 10000 := by
        rw [hM]; exact Nat.le_trans (once_len _) (by simp; omega)
      have hMw : ∀ y ∈ M, y < W256 := fun y hy => by
        rw [hM, once_mem] at hy
        obtain ⟨e, he, rfl⟩ := List.mem_map.1 hy
        exact (HOK.out.2 e he).2
      obtain ⟨q3, c3, rfl, hin3⟩ := HsIn.of_row hr3 hMw
      have H3 := Lib.hid hin3
      have HV3 := Lib.hid (HVT.out.below hb3)
      have HI3 := Lib.hid (HIT.out.keep (X := fun _ => False) (Keep.of_below hb3) (fun h => h))
      have K3 := Lib.hid (KT.out.trans (hb3.mono KT.out.size))
      have HMW := Lib.hid hMw
      clear hr3 ho3 hb3 hM hsum hMw hin3 PS
      go_wp2
      go_loopg [7, 59] M.length (fun gh nn i wx => ∃ k t : Nat, k ≤ M.length ∧ t ≤ 10000 ∧ nn = .int .i64 (t : Int) ∧ i = .int .i64 (k : Int) ∧ gh = M.length - k ∧ Hid (t = ((M.take k).map fun h => (saidBy L h).length).sum ∧ Below w3.heap.size w3 wx))
      case atStart => exact ⟨0, 0, Nat.zero_le _, Nat.zero_le _, rfl, rfl, rfl, rfl, Below.refl _ _⟩
      case round =>
        obtain ⟨j, t, hj, ht, rfl, rfl, hg, HT⟩ := hrel
        have HG2 := Lib.hid hg
        clear hg
        by_cases hjl : j < M.length
        · obtain ⟨g3, rfl, hgl3, hr3, hx3⟩ := (H3.out.below HT.out.2).2 j hjl
          have hstep := sum_take_succ (fun h => (saidBy L h).length) M j hjl
          have hle := sum_take_le (fun h => (saidBy L h).length) M (j + 1)
          rw [HSUM.out, hstep] at hle
          rw [← HT.out.1] at hstep hle
          generalize M.getD j 0 = hh at *
          have hstep := Lib.hid hstep
          have hst := storeHash hh wr
          have BH := Lib.hid (Blk.new wr (hcs hh) 26)
          have KB := Lib.hid ((Below.refl wr.heap.size wr).alloc (Nat.le_refl _) (.cells (hcs hh) 26))
          have hHb := KB.out
          have PP := Lib.hid (ppeers p L bm o hh _ ((HV3.out.below HT.out.2).below KB.out) hl9 HOK.out hx3)
          have KC := Lib.hid (HT.out.2.trans (hHb.mono HT.out.2.size))
          clear hHb
          go_upto_region 19 with (refine wpl_loadH rfl (.tmp 61) rfl g3 (j * 32) rfl hh hr3 ?_)
          generalize wr.alloc (.cells (hcs hh) 26) = wC at *
          generalize hgc : wr.heap.size = GC at *
          have ld := BH.out
          clear hst hr3
          go_wp2_with (refine wpl_load rfl 26 (.tmp 9) rfl rfl ld Try.underlying26 (by rw [hcs_size]; kernel_rfl) ?_)
          refine PP.out.mono ?_
          rintro e w4 ⟨vp, op, rfl, hrp, hop, hbp⟩
          obtain ⟨qp, cp, rfl, -, -, -⟩ := hrp.form
          have HP := Lib.hid hrp
          have K4 := Lib.hid (KC.out.trans (hbp.mono KC.out.size))
          have HI4 := Lib.hid (HI3.out.keep (X := fun _ => False) (Keep.of_below K4.out) (fun h => h))
          clear hrp hop hbp ld
          have hPn : (saidBy L hh).length ≤ 10000 := by omega
          obtain ⟨P, hP⟩ : ∃ P, P = saidBy L hh := ⟨_, rfl⟩
          rw [← hP] at HP hstep hle hPn ⊢
          have HPP := Lib.hid hP
          clear hP
          go_wp2
          go_loopg [7, 67] P.length (fun gh nn i wx => ∃ u : Nat, u ≤ P.length ∧ nn = .int .i64 ((t + u : Nat) : Int) ∧ i = .int .i64 (u : Int) ∧ gh = P.length - u ∧ Hid (wx = w4))
          case atStart => exact ⟨0, Nat.zero_le _, rfl, rfl, rfl, rfl⟩
          case round =>
            obtain ⟨u, hu, rfl, rfl, hg, HU⟩ := hrel
            have HG3 := Lib.hid hg
            clear hg
            obtain rfl := HU.out
            by_cases hul : u < P.length
            · obtain ⟨gp, capp, _, e1, _, _, hglp, hcell, _⟩ := HP.out.mem (by omega)
              cases e1
              have ck := hcell u (by omega)
              rw [i64s_get _ _ hul] at ck
              have hxin : P.getD u 0 ∈ saidBy L hh := by
                rw [← HPP.out, List.getD_eq_getElem?_getD, List.getElem?_eq_getElem hul]; exact List.getElem_mem _
              have hlk := HI4.out.look Try.underlying3 Try.underlying27 (zeroBool wr) (saidBy_wf HOK.out hxin)
              rw [fin_val, saidBy_in hxin] at hlk
              generalize P.getD u 0 = xu at *
              clear hcell hxin
              go_wp2
              go_roundg (P.length - (u + 1))
              case measure => rw [HG3.out]; omega
              case rel => exact ⟨u + 1, hul, congrArg (Value.int .i64) (by omega), rfl, rfl, rfl⟩
            · obtain rfl : u = P.length := by omega
              go_wp2
              go_roundg (M.length - (j + 1))
              case measure => rw [HG2.out]; omega
              case rel => exact ⟨j + 1, t + P.length, hjl, by omega, rfl, rfl, rfl, hstep.out.symm, K4.out⟩
        · obtain rfl : j = M.length := by omega
          have htl : t = L.length := by
            have := HT.out.1
            rw [List.take_length, HSUM.out] at this; exact this
          subst htl
          have HV5 := Lib.hid (HV3.out.below HT.out.2)
          have HI5 := Lib.hid (HI3.out.keep (X := fun _ => False) (Keep.of_below HT.out.2) (fun h => h))
          have K5 := Lib.hid (K3.out.trans (HT.out.2.mono K3.out.size))
          have hwf9 : (Lit.int .i64 (-9)).wf = true := by decide
          cases hb9 : vhas L (-9) with
          | true =>
            have PV := Lib.hid (pvote_yes p L bm o (-9) 0 wr HV5.out hwf9 (by omega) hb9)
            have HB9 := Lib.hid hb9
            have hv9 := HB9
            clear hb9
            go_wp2_with (refine wpl_build (ps := #[]) rfl 26 #[] rfl rfl (buildZero _) ?_)
            refine PV.out.mono ?_
            rintro e w6 ⟨rfl, o6, hv6, ho6, hk6⟩
            have hI6 := HI5.out.keep hk6 hinT
            have hlen6 := hI6.len Try.underlying27 3
            have hlk := hI6.look Try.underlying3 Try.underlying27 (zeroBool w6) hwf9
            rw [fin_val, HB9.out] at hlk
            have PHH := phas p L bm o6 (-9) w6 hv6 hwf9
            rw [hv9.out] at PHH
            have PHH := Lib.hid PHH
            have R6 := Lib.hid (K5.out.trans (hk6.below K5.out.size hftT.out))
            clear hv6 ho6 hk6 hI6 PV
            go_wp2_with fail
            refine PHH.out.mono ?_
            rintro e w7 ⟨rfl, hb7⟩
            have R7 := Lib.hid (R6.out.trans (hb7.mono R6.out.size))
            clear hb7
            go_wp2
            go_ret
            exact ⟨rfl, R7.out⟩
          | false =>
            have PV := Lib.hid (pvote_no p L bm o (-9) 0 wr HV5.out hwf9 (by omega) hb9)
            have HB9 := Lib.hid hb9
            have hv9 := Lib.hid (show vhas (L ++ [((-9 : Int), 0)]) (-9) = true from by simp [vhas])
            clear hb9
            go_wp2_with (refine wpl_build (ps := #[]) rfl 26 #[] rfl rfl (buildZero _) ?_)
            refine PV.out.mono ?_
            rintro e w6 ⟨rfl, o6, hv6, ho6, hk6⟩
            have hI6 := HI5.out.keep hk6 hinT
            have hlen6 := hI6.len Try.underlying27 3
            have hlk := hI6.look Try.underlying3 Try.underlying27 (zeroBool w6) hwf9
            rw [fin_val, HB9.out] at hlk
            have PHH := phas p (L ++ [((-9 : Int), 0)]) bm o6 (-9) w6 hv6 hwf9
            rw [hv9.out] at PHH
            have PHH := Lib.hid PHH
            have R6 := Lib.hid (K5.out.trans (hk6.below K5.out.size hftT.out))
            clear hv6 ho6 hk6 hI6 PV
            go_wp2_with fail
            refine PHH.out.mono ?_
            rintro e w7 ⟨rfl, hb7⟩
            have R7 := Lib.hid (R6.out.trans (hb7.mono R6.out.size))
            clear hb7
            go_wp2
            go_ret
            exact ⟨rfl, R7.out⟩
end Go.Proofs.Ytgedpgdefafofaa
