import Derived.Test.YtbjbjgfjaopibaaGreatDoorLv17
import Derived.Test.YtbjbjgfjaopibaaGreatDoorLv9
section
/- The document's body of a batch. -/
namespace Go.Proofs.YtbjbjgfjaopibaaGreatDoor
open Go Go.RowKit
set_option linter.unusedSimpArgs false
set_option linter.unusedVariables false
set_option maxRecDepth 100000

theorem risK (s : ByteArray) (w : World) (hs : s.size ≤ MB) : Calls Tryz.prog 70 #[.string s] w fun e w' => e = .returned (.bool (fineK (bsK s))) ∧ w = w' := by
  have hl : s.toList.length = s.size := by rw [ByteArray.toList_eq, Array.length_toList]; rfl
  rcases Nat.eq_zero_or_pos s.size with h0 | h0
  · have hf : fineK (bsK s) = false := by unfold fineK; rw [bsK_len, h0]; rfl
    have e1 : s.toList = [] := List.eq_nil_of_length_eq_zero (by omega)
    have e2 : s.toList.isEmpty = true := by rw [e1]; rfl
    rw [hf]
    have e3 : ¬ ((1 : Int) ≤ (s.size : Int)) := by omega
    clear hl hf e1 h0
    go_enter Tryz.func70, Tryz.ntmps70
    go_wp2
    go_ret
    exact ⟨rfl, rfl⟩
  · have e2 : s.toList.isEmpty = false := by
      rw [List.isEmpty_eq_false_iff]; intro h; rw [h] at hl; simp at hl; omega
    have e3 : (1 : Int) ≤ (s.size : Int) := by omega
    by_cases h1 : s.size ≤ 100
    · have hf : fineK (bsK s) = true := by unfold fineK; rw [bsK_len, decide_eq_true h0, decide_eq_true h1]; rfl
      have h2 : (s.size : Int) ≤ 100 := by omega
      rw [hf]
      clear hl hf h0 h1
      go_enter Tryz.func70, Tryz.ntmps70
      go_wp2
      go_ret
      exact ⟨rfl, rfl⟩
    · have hf : fineK (bsK s) = false := by unfold fineK; rw [bsK_len, decide_eq_false h1, Bool.and_false]
      have h2 : decide ((s.size : Int) ≤ 100) = false := decide_eq_false (by omega)
      rw [hf]
      clear hl hf h0 h1
      go_enter Tryz.func70, Tryz.ntmps70
      go_wp2
      go_ret
      exact ⟨rfl, rfl⟩
set_option maxHeartbeats 3200000 in
theorem rbody_many (X : BatchD) (w : World) (h : 20000 < X.puts.n ∨ 20000 < X.dels.n) (hX : BatOk w X) :
    Calls Tryz.prog 46 #[.agg #[.slice X.puts.a X.puts.n X.puts.c, .slice X.dels.a X.dels.n X.dels.c]] w (WritePost X w) := by
  have hno : ¬ CanB (batX X) := fun hc => by
    have h1 := hc.puts; have h2 := hc.dels
    simp [batX] at h1 h2; omega
  have b1 : X.puts.n ≤ MB := hX.1.2.1.1
  have b2 : X.dels.n ≤ MB := hX.2.2.1.1
  have HNO := Lib.hid hno
  clear hno hX
  obtain ⟨n, hn⟩ : ∃ n, n = X.puts.n := ⟨_, rfl⟩
  obtain ⟨m, hm⟩ : ∃ m, m = X.dels.n := ⟨_, rfl⟩
  rw [← hn, ← hm] at h ⊢
  rw [← hn] at b1
  rw [← hm] at b2
  have HH := Lib.hid (And.intro hn hm)
  clear hn hm
  by_cases h1 : 20000 < n
  · have d1 : (20000 : Int) < (n : Int) := by omega
    clear h
    go_enter Tryz.func46, Tryz.ntmps46
    go_wp2
    exact bodyPost_ret (results_tmp2 Tryz.results46 _ _ _) rfl (WritePost.no ((Below.refl _ _).alloc (Nat.le_refl _) _) HNO.out)
  · have d1 : decide ((20000 : Int) < (n : Int)) = false := decide_eq_false (by omega)
    have d2 : (20000 : Int) < (m : Int) := by omega
    clear h
    go_enter Tryz.func46, Tryz.ntmps46
    go_wp2
    exact bodyPost_ret (results_tmp2 Tryz.results46 _ _ _) rfl (WritePost.no ((Below.refl _ _).alloc (Nat.le_refl _) _) HNO.out)
set_option maxHeartbeats 12800000 in
theorem rbody_few (X : BatchD) (w : World) (h1 : X.puts.n ≤ 20000) (h2 : X.dels.n ≤ 20000) (hX : BatOk w X) :
    Calls Tryz.prog 46 #[.agg #[.slice X.puts.a X.puts.n X.puts.c, .slice X.dels.a X.dels.n X.dels.c]] w (WritePost X w) := by
  obtain ⟨i0, hi, hz0, hz1, hz2⟩ := info_parts u8inf
  have HI := Lib.hid (And.intro hi (And.intro hz0 (And.intro hz1 hz2)))
  clear hi hz0 hz1 hz2
  obtain ⟨n, hn⟩ : ∃ n, n = X.puts.n := ⟨_, rfl⟩
  obtain ⟨m, hm⟩ : ∃ m, m = X.dels.n := ⟨_, rfl⟩
  obtain ⟨pa, hpa⟩ : ∃ pa, pa = X.puts.a := ⟨_, rfl⟩
  obtain ⟨da, hda⟩ : ∃ da, da = X.dels.a := ⟨_, rfl⟩
  rw [← hn] at h1 ⊢
  rw [← hm] at h2 ⊢
  rw [← hpa, ← hda]
  have HN := Lib.hid (And.intro hn (And.intro hm (And.intro hpa hda)))
  clear hn hm hpa hda
  have bn := Blk.new w #[.slice pa n X.puts.c, .slice da m X.dels.c] 41
  have k0 := (Below.refl w.heap.size w).alloc (Nat.le_refl _) (.cells #[.slice pa n X.puts.c, .slice da m X.dels.c] 41)
  have HX := Lib.hid (hX.below k0)
  clear hX
  generalize X.puts.c = pc at *
  generalize X.dels.c = dc at *
  have d1 : decide ((20000 : Int) < (n : Int)) = false := decide_eq_false (by omega)
  have d2 : decide ((20000 : Int) < (m : Int)) = false := decide_eq_false (by omega)
  go_enter Tryz.func46, Tryz.ntmps46
  go_upto_region 1 with fail
  generalize w.alloc (.cells #[.slice pa n pc, .slice da m dc] 41) = W at *
  generalize hgw : w.heap.size = g at *
  have c0 : W.cell? ⟨g, 0, none⟩ = some (.slice pa n pc) := bn.cell 0
  have c1 : W.cell? ⟨g, 1, none⟩ = some (.slice da m dc) := bn.cell 1
  have PE := Lib.hid (renc n (by omega) W)
  have HB := Lib.hid (And.intro bn (And.intro k0 hgw))
  clear k0 bn hgw
  go_wp2_with fail
  refine PE.out.mono ?_
  rintro e w1 ⟨p1, cc1, o1, rfl, R1, ho1, hb1⟩
  clear c0 c1
  have c0 : w1.cell? ⟨g, 0, none⟩ = some (.slice pa n pc) := (HB.out.1.beyond hb1).cell 0
  have R1' : Row w1 5 (.slice p1 (encS n).length cc1) (wr1 X 0) o1 := row_cast R1 (by unfold wr1; rw [← HN.out.1]; simp)
  have H1 := Lib.hid (And.intro R1' (And.intro ho1 hb1))
  have hel := (encS_ne n).2
  clear R1 R1' ho1 hb1 d1 d2
  generalize (encS n).length = en at *
  go_wp2
  go_loopg [4, 27] n (fun gh v i wx => ∃ (k : Nat) (o : Option Nat), k ≤ n ∧ i = .int .i64 (k : Int) ∧ gh = n - k ∧ Hid (Row wx 5 v (wr1 X k) o ∧ (∀ g, o = some g → W.heap.size ≤ g) ∧ Below W.heap.size W wx ∧ (∀ i, i < k → finePut (putX X i) = true) ∧ (wr1 X k).length ≤ 1500000))
  case atStart => exact ⟨0, o1, Nat.zero_le _, rfl, rfl, H1.out.1, H1.out.2.1, H1.out.2.2, fun i hi => absurd hi (Nat.not_lt_zero i), by unfold wr1; rw [← HN.out.1]; simp; have := (encS_ne n).2; omega⟩
  case round =>
    obtain ⟨k, o, hk, rfl, hg, HK⟩ := hrel
    have HG := Lib.hid hg
    clear hg c0
    obtain ⟨pk, ck, rfl, _⟩ := HK.out.1.form
    obtain ⟨xk, hxk⟩ : ∃ xk, xk = wr1 X k := ⟨_, rfl⟩
    have hxl : xk.length ≤ 1500000 := by rw [hxk]; exact HK.out.2.2.2.2
    have hkx : k ≤ X.puts.n := by rw [← HN.out.1]; exact hk
    rw [← hxk] at HK ⊢
    have HXK := Lib.hid hxk
    clear hxk
    have hfin : g < wr.heap.size := by have := HB.out.1.lt; have := HK.out.2.2.1.size; omega
    by_cases hlt : k < n
    · have hltx : k < X.puts.n := by rw [← HN.out.1]; exact hlt
      obtain ⟨b, off, hpa, _, hca, hok⟩ := HX.out.1.2.2.2 k hltx
      rw [← HN.out.2.2.1] at hpa
      obtain ⟨xp, hxp⟩ : ∃ xp, xp = X.puts.x k := ⟨_, rfl⟩
      rw [← hxp] at hca hok
      have HXP := Lib.hid hxp
      obtain ⟨key, ⟨va, vc, vz⟩⟩ := xp
      change CellsAt W b (off + k * 2) (pairCs ⟨key, ⟨va, vc, vz⟩⟩) at hca
      subst hpa
      have hcr := hca.below (w' := wr) HK.out.2.2.1
      have t0 : wr.cell? ⟨b, off + k * 2, none⟩ = some (.string key) := hcr 0 (by simp [pairCs])
      have t1 : wr.cell? ⟨b, off + k * 2 + 1, none⟩ = some (.slice va vz.length vc) := hcr 1 (by simp [pairCs])
      have hks : key.size ≤ MB := hok.1
      have hvl : vz.length ≤ MB := hok.2.2
      have HOK := Lib.hid (And.intro hok (hok.2.1.below HK.out.2.2.1))
      have bx := Blk.new wr #[.string key, .slice va vz.length vc] 58
      have kx := (Below.refl wr.heap.size wr).alloc (Nat.le_refl _) (.cells #[.string key, .slice va vz.length vc] 58)
      obtain ⟨z, hz⟩ : ∃ z, z = vz.length := ⟨_, rfl⟩
      rw [← hz] at t1 bx kx hvl
      have HZ := Lib.hid hz
      clear hca hok hcr hxp hz
      go_upto_region 7 with fail
      clear t0 t1
      generalize wr.alloc (.cells #[.string key, .slice va z vc] 58) = w4 at *
      generalize hgx : wr.heap.size = gx at *
      have cx0 : w4.cell? ⟨gx, 0, none⟩ = some (.string key) := bx.cell 0
      have cx1 : w4.cell? ⟨gx, 1, none⟩ = some (.slice va z vc) := bx.cell 1
      have hlx := bx.lt
      have hput : putX X k = (bsK key, vz) := by unfold putX; rw [← HXP.out]
      have kx4 : Below wr.heap.size wr w4 := by rw [hgx]; exact kx
      have kW4 : Below W.heap.size W w4 := HK.out.2.2.1.trans (kx4.mono HK.out.2.2.1.size)
      have kw4 : Below w.heap.size w w4 := by
        rw [HB.out.2.2]
        exact HB.out.2.1.trans (kW4.mono (by have := HB.out.1.lt; omega))
      have PF := risK key w4 hks
      have HP := Lib.hid (And.intro hput (And.intro kx4 (And.intro kW4 kw4)))
      clear hput kx kx4 kW4 kw4 bx
      by_cases f1 : fineK (bsK key) = true
      · rw [f1] at PF
        have PF := Lib.hid PF
        by_cases f2 : z ≤ 60000
        · have e2 : decide ((60000 : Int) < (z : Int)) = false := decide_eq_false (by omega)
          by_cases f3 : xk.length ≤ 1048576
          · have e3 : decide ((1048576 : Int) < (xk.length : Int)) = false := decide_eq_false (by omega)
            generalize hxn : xk.length = xn at *
            have HXN := Lib.hid hxn
            have HF3 := Lib.hid f3
            clear hxn f3
            go_upto_region 9 with (refine PF.out.mono ?_; rintro e w' ⟨rfl, rfl⟩)
            obtain ⟨cap, w5, hcv, hb5, hy5, hs5⟩ := conv_bytes w4.drew key
            have hklen : (kb (bsK key)).length = key.size := by rw [kb_len, bsK_len]
            have hk100 : key.size ≤ 100 := by have := (fineK_iff.1 f1).2; rw [bsK_len] at this; exact this
            have hgw4 : wr.heap.size ≤ w4.drew.heap.size := HP.out.2.1.size
            have PT1 := rtext (kb (bsK key)) (some ⟨w4.heap.size, 0, none⟩) cap w5 hy5 (by rw [hklen]; omega)
            rw [hklen] at PT1
            have PT1 := Lib.hid PT1
            have hk5 : Below wr.heap.size wr w5 := HP.out.2.1.drew.trans (hb5.mono hgw4)
            have H5 := Lib.hid (And.intro hk5 (And.intro hb5 hklen))
            have hlx4 : gx < w4.drew.heap.size := hlx
            have hogx : ∀ g, o = some g → g < gx := fun g hg => by rw [← hgx]; exact HK.out.1.lt g hg
            clear hk5 hy5 hs5 hklen
            refine wp_region_held_drew (S := fun w' => w'.cell? ⟨gx, 0, none⟩ = some (.string key) ∧ w'.cell? ⟨gx, 1, none⟩ = some (.slice va z vc)) (by kernel_rfl) ⟨cx0, cx1⟩ (fun hS => ?_)
            refine tkH 0 (v := ?_) rfl (by kernel_rfl) ⟨by rfl, ?_⟩ hS ?_
            rotate_left
            · intro w0 hs; obtain ⟨s1, s2⟩ := hs; go_simp; try (with_reducible rfl)
            try simp only [Act.put, List.setIfInBounds_toArray, List.set_cons_zero, List.set_cons_succ]
            refine tkH 1 (v := ?_) rfl (by kernel_rfl) ⟨by rfl, ?_⟩ hS ?_
            rotate_left
            · intro w0 hs; obtain ⟨s1, s2⟩ := hs; go_simp; try (with_reducible rfl)
            try simp only [Act.put, List.setIfInBounds_toArray, List.set_cons_zero, List.set_cons_succ]
            refine tkH 2 (v := ?_) rfl (by kernel_rfl) ⟨by rfl, ?_⟩ hS ?_
            rotate_left
            · intro w0 hs; obtain ⟨s1, s2⟩ := hs; go_simp; try (with_reducible rfl)
            try simp only [Act.put, List.setIfInBounds_toArray, List.set_cons_zero, List.set_cons_succ]
            refine tkH 6 (v := ?_) rfl (by kernel_rfl) ⟨by rfl, ?_⟩ hS ?_
            rotate_left
            · intro w0 hs; obtain ⟨s1, s2⟩ := hs; go_simp; try (with_reducible rfl)
            try simp only [Act.put, List.setIfInBounds_toArray, List.set_cons_zero, List.set_cons_succ]
            refine tkH 7 (v := ?_) rfl (by kernel_rfl) ⟨by rfl, ?_⟩ hS ?_
            rotate_left
            · intro w0 hs; obtain ⟨s1, s2⟩ := hs; go_simp; try (with_reducible rfl)
            try simp only [Act.put, List.setIfInBounds_toArray, List.set_cons_zero, List.set_cons_succ]
            refine wpAnyH_ready (rs := [3]) (by kernel_rfl) (by simp) ?_
            refine AllReadyH.cons (o := ⟨_, _, _, _, _, _⟩) rfl (fun K hK => ?_) AllReadyH.nil
            rw [if_pos (by rfl)]
            go_simp
            refine hK.out _ _ ⟨(hb5.cell (p := ⟨gx, 0, none⟩) hlx4).trans hS.1, (hb5.cell (p := ⟨gx, 1, none⟩) hlx4).trans hS.2⟩ (fun hS' => ?_)
            clear hS hK
            have hS := hS'; clear hS'
            try simp only [Act.put, List.setIfInBounds_toArray, List.set_cons_zero, List.set_cons_succ]
            refine wpAnyH_ready (rs := [4]) (by kernel_rfl) (by simp) ?_
            refine AllReadyH.cons (o := ⟨_, _, _, _, _, _⟩) rfl (fun K hK => ?_) AllReadyH.nil
            rw [if_pos (by rfl)]
            go_step
            refine PT1.out.mono ?_
            rintro e w6 ⟨p6, c6, o6, rfl, R6, ho6, hb6⟩
            obtain ⟨_, _, e6, hy6, _⟩ := R6.form
            cases e6
            have hk6 : Below wr.heap.size wr w6 := H5.out.1.trans (hb6.mono H5.out.1.size)
            obtain ⟨v7, w7, o7, run7, R7, ho7, k7⟩ := row_appendL (P := Tryz.prog) 22 22 i0 (.int .u8 0) Tryz.underlying22 HI.out.1 HI.out.2.1 HI.out.2.2.1 HI.out.2.2.2 rfl (HK.out.1.keep (X := fun _ => False) (Keep.of_below hk6) (fun _ _ h => h)) (p := p6) (c := c6) (ys := txtB (kb (bsK key))) hy6 (by have a1 := (txtB_len (kb (bsK key))).2; have a2 := H5.out.2.2; have a3 := HXN.out; have a4 := HF3.out; omega)
            have hkW6 := HK.out.2.2.1.trans (hk6.mono HK.out.2.2.1.size)
            have hst7 := own_step (G := W.heap.size) rfl hkW6 HK.out.2.1 ho7 k7
            obtain ⟨q7, d7, rfl, _⟩ := R7.form
            have hy7 : Lib.BytesIn w7 va vz.length vz := bytes_keep HOK.out.2.bytes ((Keep.of_below (X := fun g => o = some g) hk6).trans k7) (fun h0 q hq e => by have h1 := HOK.out.1.2.1.there q hq h0; have h2 := HK.out.2.1 _ e; omega)
            have PT2 := rtext vz va vc w7 hy7 (by have := HZ.out; omega)
            rw [← HZ.out] at PT2
            have PT2 := Lib.hid PT2
            have HS7 := Lib.hid (And.intro R7 (And.intro hst7 (And.intro k7 (And.intro ho7 hb6))))
            have hgx7 : ∀ g, o7 = some g → g ≠ gx := fun g hg e => by
              subst e
              rcases ho7 with h | ⟨g', h, hg'⟩
              · have := hogx _ (h ▸ hg); omega
              · rw [h] at hg; cases hg; have s1 := hb5.size; have s2 := hb6.size; omega
            clear R6 ho6 hy6 hk6 hkW6 hst7 hy7 R7
            simp only []
            refine hK.out _ _ ⟨(hb6.cell (p := ⟨gx, 0, none⟩) (cell_lt hS.1)).trans hS.1, (hb6.cell (p := ⟨gx, 1, none⟩) (cell_lt hS.2)).trans hS.2⟩ (fun hS' => ?_)
            clear hS hK
            have hS := hS'; clear hS'
            try simp only [Act.put, List.setIfInBounds_toArray, List.set_cons_zero, List.set_cons_succ]
            refine wpAnyH_ready (rs := [5]) (by kernel_rfl) (by simp) ?_
            refine AllReadyH.cons (o := ⟨_, _, _, _, _, _⟩) rfl (fun K hK => ?_) AllReadyH.nil
            rw [if_pos (by rfl)]
            refine wp_appI _ _ 22 rfl rfl rfl run7 ?_
            refine hK.out _ _ ⟨(k7.cell (p := ⟨gx, 0, none⟩) (cell_lt hS.1) (fun e => Nat.lt_irrefl _ (hogx _ e))).trans hS.1, (k7.cell (p := ⟨gx, 1, none⟩) (cell_lt hS.2) (fun e => Nat.lt_irrefl _ (hogx _ e))).trans hS.2⟩ (fun hS' => ?_)
            clear hS hK
            have hS := hS'; clear hS'
            try simp only [Act.put, List.setIfInBounds_toArray, List.set_cons_zero, List.set_cons_succ]
            refine wpAnyH_ready (rs := [8]) (by kernel_rfl) (by simp) ?_
            refine AllReadyH.cons (o := ⟨_, _, _, _, _, _⟩) rfl (fun K hK => ?_) AllReadyH.nil
            rw [if_pos (by rfl)]
            go_step
            refine PT2.out.mono ?_
            rintro e w8 ⟨p8, c8, o8, rfl, R8, ho8, hb8⟩
            obtain ⟨_, _, e8, hy8, _⟩ := R8.form
            cases e8
            obtain ⟨v9, w9, o9, run9, R9, ho9, k9⟩ := row_appendL (P := Tryz.prog) 22 22 i0 (.int .u8 0) Tryz.underlying22 HI.out.1 HI.out.2.1 HI.out.2.2.1 HI.out.2.2.2 rfl (HS7.out.1.keep (X := fun _ => False) (Keep.of_below hb8) (fun _ _ h => h)) (p := p8) (c := c8) (ys := txtB vz) hy8 (by have a1 := (txtB_len (kb (bsK key))).2; have a2 := H5.out.2.2; have a3 := HXN.out; have a4 := HF3.out; have a5 := (txtB_len vz).2; have a6 := HZ.out; rw [List.length_append]; omega)
            have hkW8 := HS7.out.2.1.2.trans (hb8.mono HS7.out.2.1.2.size)
            have hst9 := own_step (G := W.heap.size) rfl hkW8 HS7.out.2.1.1 ho9 k9
            have HS9 := Lib.hid (And.intro R9 (And.intro hst9 (And.intro k9 hb8)))
            clear R8 ho8 hy8 hkW8 hst9 R9 ho9
            simp only []
            refine hK.out _ _ ⟨(hb8.cell (p := ⟨gx, 0, none⟩) (cell_lt hS.1)).trans hS.1, (hb8.cell (p := ⟨gx, 1, none⟩) (cell_lt hS.2)).trans hS.2⟩ (fun hS' => ?_)
            clear hS hK
            have hS := hS'; clear hS'
            try simp only [Act.put, List.setIfInBounds_toArray, List.set_cons_zero, List.set_cons_succ]
            refine wpAnyH_ready (rs := [9]) (by kernel_rfl) (by simp) ?_
            refine AllReadyH.cons (o := ⟨_, _, _, _, _, _⟩) rfl (fun K hK => ?_) AllReadyH.nil
            rw [if_pos (by rfl)]
            refine wp_appI _ _ 22 rfl rfl rfl run9 ?_
            refine hK.out _ _ ⟨(k9.cell (p := ⟨gx, 0, none⟩) (cell_lt hS.1) (fun e => hgx7 _ e rfl)).trans hS.1, (k9.cell (p := ⟨gx, 1, none⟩) (cell_lt hS.2) (fun e => hgx7 _ e rfl)).trans hS.2⟩ (fun hS' => ?_)
            clear hS hK
            have hS := hS'; clear hS'
            try simp only [Act.put, List.setIfInBounds_toArray, List.set_cons_zero, List.set_cons_succ]
            refine tkH 10 (v := ?_) rfl (by kernel_rfl) ⟨by rfl, ?_⟩ hS ?_
            rotate_left
            · intro w0 hs; obtain ⟨s1, s2⟩ := hs; go_simp; try (with_reducible rfl)
            try simp only [Act.put, List.setIfInBounds_toArray, List.set_cons_zero, List.set_cons_succ]
            refine wpAnyH_done (by kernel_rfl) ?_ _
            have e7 : (xk ++ txtB (kb (bsK key))) ++ txtB vz = wr1 X (k + 1) := by
              rw [wr1_succ, HP.out.1, ← HXK.out, List.append_assoc]; rfl
            have hwl : (wr1 X (k + 1)).length ≤ 1500000 := by
              rw [wr1_succ, HP.out.1, ← HXK.out, List.length_append, HXN.out]
              unfold putB
              rw [List.length_append]
              have a1 := (txtB_len (kb (bsK key))).2
              have a2 := (txtB_len vz).2
              have := HZ.out
              have := HF3.out
              have := H5.out.2.2
              simp only; omega
            have H7 := Lib.hid (And.intro (row_cast HS9.out.1 e7) HS9.out.2.1)
            have HWL := Lib.hid hwl
            clear hwl e7
            go_wp2
            go_roundg (n - (k + 1))
            case measure => rw [HG.out]; omega
            case rel => exact ⟨k + 1, o9, hlt, rfl, rfl, H7.out.1, H7.out.2.1, H7.out.2.2, fun i hi => by
              rcases Nat.lt_or_ge i k with h | h
              · exact HK.out.2.2.2.1 i h
              · obtain rfl : i = k := by omega
                rw [HP.out.1, finePut_iff]
                exact ⟨fineK_iff.1 f1, by have := HZ.out; simp only; omega⟩, HWL.out⟩
          · have e3 : (1048576 : Int) < (xk.length : Int) := by omega
            have hno := not_len hkx (by rw [← HXK.out]; omega)
            have HNO := Lib.hid hno
            clear hno f3
            generalize hxn : xk.length = xn at *
            go_wp2_with (refine PF.out.mono ?_; rintro e w' ⟨rfl, rfl⟩)
            exact bodyPost_ret (results_tmp2 Tryz.results46 _ _ _) rfl (WritePost.no HP.out.2.2.2 HNO.out)
        · have e2 : (60000 : Int) < (z : Int) := by omega
          have hno := not_put hltx (by rw [HP.out.1, ← Bool.not_eq_true, finePut_iff]; rintro ⟨_, h⟩; have := HZ.out; simp only at h; omega)
          have HNO := Lib.hid hno
          clear hno f2
          go_wp2_with (refine PF.out.mono ?_; rintro e w' ⟨rfl, rfl⟩)
          exact bodyPost_ret (results_tmp2 Tryz.results46 _ _ _) rfl (WritePost.no HP.out.2.2.2 HNO.out)
      · have f1' : fineK (bsK key) = false := by simpa using f1
        rw [f1'] at PF
        have PF := Lib.hid PF
        have hno := not_put hltx (by rw [HP.out.1]; unfold finePut; simp only []; rw [f1', Bool.false_and])
        have HNO := Lib.hid hno
        clear hno f1 f1'
        go_wp2_with (refine PF.out.mono ?_; rintro e w' ⟨rfl, rfl⟩)
        exact bodyPost_ret (results_tmp2 Tryz.results46 _ _ _) rfl (WritePost.no HP.out.2.2.2 HNO.out)
    · obtain rfl : k = n := by omega
      have c1 : wr.cell? ⟨g, 1, none⟩ = some (.slice da m dc) := (HB.out.1.beyond HK.out.2.2.1).cell 1
      have PE2 := Lib.hid (renc m (by omega) wr)
      have hem := (encS_ne m).2
      generalize hxn : xk.length = xn at *
      have HXN := Lib.hid hxn
      clear hxn
      go_wp2_with fail
      refine PE2.out.mono ?_
      rintro e w2 ⟨p2, cc2, o2, rfl, R2, ho2, hb2⟩
      obtain ⟨_, _, e2, hy2, _⟩ := R2.form
      cases e2
      obtain ⟨v3, w3, o3, run3, R3, ho3, k3⟩ := row_appendL (P := Tryz.prog) 22 22 i0 (.int .u8 0) Tryz.underlying22 HI.out.1 HI.out.2.1 HI.out.2.2.1 HI.out.2.2.2 rfl (HK.out.1.keep (X := fun _ => False) (Keep.of_below hb2) (fun _ _ h => h)) (p := p2) (c := cc2) (ys := encS m) hy2 (by rw [HXN.out]; omega)
      have e3 : xk ++ encS m = wr2 X 0 := by rw [wr2_0, HXK.out, ← HN.out.1, ← HN.out.2.1]
      rw [e3] at R3
      have hbW2 := HK.out.2.2.1.trans (hb2.mono HK.out.2.2.1.size)
      have hst := own_step (G := W.heap.size) rfl hbW2 HK.out.2.1 ho3 k3
      have hw20 : (wr2 X 0).length ≤ 1600000 := by rw [← e3, List.length_append, HXN.out]; omega
      have H3 := Lib.hid (And.intro R3 (And.intro hst.1 (And.intro hst.2 (And.intro HK.out.2.2.2.1 hw20))))
      have c1' : w3.cell? ⟨g, 1, none⟩ = some (.slice da m dc) := (HB.out.1.beyond hst.2).cell 1
      obtain ⟨p3, cc3, rfl, _⟩ := R3.form
      clear R2 ho2 hb2 hy2 R3 ho3 k3 e3 hbW2 hst hw20 c1
      generalize (encS m).length = em at *
      go_upto_region 12 with (at_builtin; refine wpl_append rfl _ _ 22 rfl rfl rfl run3 ?_)
      clear run3
      go_wp2
      go_loopg [4, 67] m (fun gh v i wx => ∃ (j : Nat) (o : Option Nat), j ≤ m ∧ i = .int .i64 (j : Int) ∧ gh = m - j ∧ Hid (Row wx 5 v (wr2 X j) o ∧ (∀ g, o = some g → W.heap.size ≤ g) ∧ Below W.heap.size W wx ∧ (∀ i, i < j → fineK (delX X i) = true) ∧ (wr2 X j).length ≤ 1600000 + j * 109))
      case atStart => exact ⟨0, o3, Nat.zero_le _, rfl, rfl, H3.out.1, H3.out.2.1, H3.out.2.2.1, fun i hi => absurd hi (Nat.not_lt_zero i), by have := H3.out.2.2.2.2; omega⟩
      case round =>
        obtain ⟨j, oj, hj, rfl, hg, HJ⟩ := hrel
        have HG2 := Lib.hid hg
        clear hg c1'
        obtain ⟨pj, cj, rfl, _⟩ := HJ.out.1.form
        obtain ⟨xj, hxj⟩ : ∃ xj, xj = wr2 X j := ⟨_, rfl⟩
        have hxl2 : xj.length ≤ 1600000 + j * 109 := by rw [hxj]; exact HJ.out.2.2.2.2
        rw [← hxj] at HJ ⊢
        have HXJ := Lib.hid hxj
        clear hxj
        have hkw : Below w.heap.size w wr := by
          rw [HB.out.2.2]
          exact HB.out.2.1.trans (HJ.out.2.2.1.mono (by have := HB.out.1.lt; omega))
        have HKW := Lib.hid hkw
        clear hkw
        by_cases hjl : j < m
        · have hjx : j < X.dels.n := by rw [← HN.out.2.1]; exact hjl
          obtain ⟨b, off, hda, _, hca, hok⟩ := HX.out.2.2.2.2 j hjx
          rw [← HN.out.2.2.2] at hda
          obtain ⟨key, hkey⟩ : ∃ key, key = X.dels.x j := ⟨_, rfl⟩
          rw [← hkey] at hca hok
          have HKEY := Lib.hid hkey
          subst hda
          have t0 : wr.cell? ⟨b, off + j, none⟩ = some (.string key) := by
            have := (hca.below (w' := wr) HJ.out.2.2.1) 0 (by simp [strCs])
            rw [Nat.mul_one] at this; exact this
          have hks : key.size ≤ MB := hok
          have hdel : delX X j = bsK key := by unfold delX; rw [← HKEY.out]
          have HD := Lib.hid hdel
          clear hca hok hkey hdel
          have PF := risK key wr hks
          by_cases f1 : fineK (bsK key) = true
          · rw [f1] at PF
            have PF := Lib.hid PF
            generalize hxn2 : xj.length = xm at *
            have HXM := Lib.hid hxn2
            clear hxn2
            go_upto_region 17 with (refine PF.out.mono ?_; rintro e w' ⟨rfl, rfl⟩)
            clear t0
            obtain ⟨cap, w5, hcv, hb5, hy5, hs5⟩ := conv_bytes wr key
            have hklen : (kb (bsK key)).length = key.size := by rw [kb_len, bsK_len]
            have hk100 : key.size ≤ 100 := by have := (fineK_iff.1 f1).2; rw [bsK_len] at this; exact this
            have PT1 := rtext (kb (bsK key)) (some ⟨wr.heap.size, 0, none⟩) cap w5 hy5 (by rw [hklen]; omega)
            rw [hklen] at PT1
            have PT1 := Lib.hid PT1
            have H5 := Lib.hid (And.intro hb5 (And.intro hklen hk100))
            clear hy5 hs5 hklen hk100 hb5
            go_wp2_with fail
            refine PT1.out.mono ?_
            rintro e w6 ⟨p6, c6, o6, rfl, R6, ho6, hb6⟩
            obtain ⟨_, _, e6, hy6, _⟩ := R6.form
            cases e6
            have hk6 : Below wr.heap.size wr w6 := H5.out.1.trans (hb6.mono H5.out.1.size)
            obtain ⟨v7, w7, o7, run7, R7, ho7, k7⟩ := row_appendL (P := Tryz.prog) 22 22 i0 (.int .u8 0) Tryz.underlying22 HI.out.1 HI.out.2.1 HI.out.2.2.1 HI.out.2.2.2 rfl (HJ.out.1.keep (X := fun _ => False) (Keep.of_below hk6) (fun _ _ h => h)) (p := p6) (c := c6) (ys := txtB (kb (bsK key))) hy6 (by have a1 := (txtB_len (kb (bsK key))).2; have a2 := H5.out.2.1; have a4 := H5.out.2.2; have a3 := HXM.out; omega)
            have hkW6 := HJ.out.2.2.1.trans (hk6.mono HJ.out.2.2.1.size)
            have hst7 := own_step (G := W.heap.size) rfl hkW6 HJ.out.2.1 ho7 k7
            have e7 : xj ++ txtB (kb (bsK key)) = wr2 X (j + 1) := by
              rw [wr2_succ, HD.out, ← HXJ.out]; rfl
            rw [e7] at R7
            try rw [HXM.out] at run7
            have hwl : (wr2 X (j + 1)).length ≤ 1600000 + (j + 1) * 109 := by
              rw [← e7, List.length_append, HXM.out]
              have a1 := (txtB_len (kb (bsK key))).2
              have a2 := H5.out.2.1
              have a3 := H5.out.2.2
              omega
            have HWL := Lib.hid hwl
            have H7 := Lib.hid (And.intro R7 hst7)
            obtain ⟨q7, d7, rfl, _⟩ := R7.form
            clear R6 ho6 hy6 hk6 hkW6 hst7 R7 ho7 k7 e7 hwl hb6
            generalize (txtB (kb (bsK key))).length = tl at *
            generalize (wr2 X (j + 1)).length = wl at run7 H7 ⊢
            go_upto_region 18 with (at_builtin; refine wpl_append rfl _ _ 22 rfl rfl rfl run7 ?_)
            go_wp2
            go_roundg (m - (j + 1))
            case measure => rw [HG2.out]; omega
            case rel => exact ⟨j + 1, o7, hjl, rfl, rfl, H7.out.1, H7.out.2.1, H7.out.2.2, fun i hi => by
              rcases Nat.lt_or_ge i j with h | h
              · exact HJ.out.2.2.2.1 i h
              · obtain rfl : i = j := by omega
                rw [HD.out]; exact f1, HWL.out⟩
          · have f1' : fineK (bsK key) = false := by simpa using f1
            rw [f1'] at PF
            have PF := Lib.hid PF
            have hno := not_del hjx (by rw [HD.out]; exact f1')
            have HNO := Lib.hid hno
            clear hno f1 f1'
            go_wp2_with (refine PF.out.mono ?_; rintro e w' ⟨rfl, rfl⟩)
            exact bodyPost_ret (results_tmp2 Tryz.results46 _ _ _) rfl (WritePost.no HKW.out HNO.out)
        · obtain rfl : j = m := by omega
          have hwa : wr2 X j = batB (batX X) := by rw [← wr2_all, ← HN.out.2.1]
          have hgG : w.heap.size ≤ W.heap.size := by rw [HB.out.2.2]; have := HB.out.1.lt; omega
          have HGG := Lib.hid hgG
          by_cases f3 : xj.length ≤ 1048576
          · have hcan : CanB (batX X) := can_of (by rw [← HN.out.1]; exact h1) (by rw [← HN.out.2.1]; exact h2) (by rw [← HN.out.1]; exact HK.out.2.2.2.1) (by rw [← HN.out.2.1]; exact HJ.out.2.2.2.1) (by rw [← HN.out.2.1, ← HXJ.out]; exact f3)
            have e3 : decide ((xj.length : Int) ≤ 1048576) = true := decide_eq_true (by omega)
            have HF := Lib.hid (And.intro hcan (And.intro (hwa.symm.trans HXJ.out.symm) HJ.out))
            clear hcan hwa hgG f3
            generalize hxn3 : xj.length = xm at *
            have HXM := Lib.hid hxn3
            clear hxn3
            go_wp2
            refine bodyPost_ret (results_tmp2 Tryz.results46 _ _ _) rfl ⟨HKW.out, .inl ⟨HF.out.1, pj, cj, oj, ?_, ?_, fun g hg => Nat.le_trans HGG.out (HF.out.2.2.2.1 g hg)⟩⟩
            · rw [HF.out.2.1, HXM.out]; rfl
            · rw [HF.out.2.1, HXM.out]; exact HF.out.2.2.1
          · have hno : ¬ CanB (batX X) := fun hc => by
              have := hc.len; rw [← hwa, ← HXJ.out] at this; exact f3 this
            have e3 : decide ((xj.length : Int) ≤ 1048576) = false := decide_eq_false (by omega)
            have HNO := Lib.hid hno
            clear hno hwa hgG f3
            generalize xj.length = xm at *
            go_wp2
            exact bodyPost_ret (results_tmp2 Tryz.results46 _ _ _) rfl (WritePost.no HKW.out HNO.out)
theorem rbody (X : BatchD) (w : World) (hX : BatOk w X) :
    Calls Tryz.prog 46 #[.agg (batCs X).toArray] w (WritePost X w) := by
  change Calls Tryz.prog 46 #[.agg #[.slice X.puts.a X.puts.n X.puts.c, .slice X.dels.a X.dels.n X.dels.c]] w _
  by_cases h1 : X.puts.n ≤ 20000
  · by_cases h2 : X.dels.n ≤ 20000
    · exact rbody_few X w h1 h2 hX
    · exact rbody_many X w (.inr (by omega)) hX
  · exact rbody_many X w (.inl (by omega)) hX
end Go.Proofs.YtbjbjgfjaopibaaGreatDoor
end
