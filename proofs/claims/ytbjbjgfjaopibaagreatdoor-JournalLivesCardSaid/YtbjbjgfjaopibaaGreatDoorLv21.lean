import Derived.Test.YtbjbjgfjaopibaaGreatDoorLv20
section
/- SHA-256, the document's: mix (under way). -/
namespace Go.Proofs.YtbjbjgfjaopibaaGreatDoor
open Go Go.RowKit
set_option linter.unusedSimpArgs false
set_option linter.unusedVariables false
set_option maxRecDepth 100000

set_option maxHeartbeats 6400000 in
theorem rmix (s : Nat → B32) (g o : Nat) (c : Nat) (x : Nat → Int) (hx : ∀ j, j < 64 → 0 ≤ x j ∧ x j ≤ 255) (w : World) (hc : ∀ j, j < 64 → w.cell? ⟨g, o + j, none⟩ = some (.int .u8 (x j))) :
    Calls Tryz.prog 95 #[.agg (u32c s 8).toArray, .slice (some ⟨g, o, none⟩) 64 c] w fun e w' => e = .returned (.agg (u32c (blockS s (msgX x)) 8).toArray) ∧ Below w.heap.size w w' := by
  have L := two_new w (u32c s 8).toArray #[.int .u32 0, .int .u32 0, .int .u32 0, .int .u32 0, .int .u32 0, .int .u32 0, .int .u32 0, .int .u32 0] 123 123
  have hgl := cell_lt (hc 0 (by decide))
  have RS := Lib.hid (rspread g o c x hx _ (fun j hj => (L.2.2.cell (p := ⟨g, o + j, none⟩) hgl).trans (hc j hj)))
  clear hc hx
  go_enter Tryz.func95, Tryz.ntmps95
  go_upto_region 1 with fail
  generalize ((w.alloc (.cells (u32c s 8).toArray 123)).alloc (.cells #[.int .u32 0, .int .u32 0, .int .u32 0, .int .u32 0, .int .u32 0, .int .u32 0, .int .u32 0, .int .u32 0] 123)) = w2 at *
  generalize hgw : w.heap.size = sb at *
  have HL := Lib.hid L
  clear L
  obtain ⟨m, hm⟩ : ∃ m, m = msgX x := ⟨_, rfl⟩
  rw [← hm] at RS
  have HM := Lib.hid hm
  clear hm
  go_wp2_with fail
  refine RS.out.mono ?_
  rintro e w3 ⟨rfl, hb3⟩
  have hst : (storeCells ⟨w3.heap.size, 0, none⟩ (wcl m 64)).run Tryz.prog (w3.alloc (.cells #[.int .u32 0, .int .u32 0, .int .u32 0, .int .u32 0, .int .u32 0, .int .u32 0, .int .u32 0, .int .u32 0, .int .u32 0, .int .u32 0, .int .u32 0, .int .u32 0, .int .u32 0, .int .u32 0, .int .u32 0, .int .u32 0, .int .u32 0, .int .u32 0, .int .u32 0, .int .u32 0, .int .u32 0, .int .u32 0, .int .u32 0, .int .u32 0, .int .u32 0, .int .u32 0, .int .u32 0, .int .u32 0, .int .u32 0, .int .u32 0, .int .u32 0, .int .u32 0, .int .u32 0, .int .u32 0, .int .u32 0, .int .u32 0, .int .u32 0, .int .u32 0, .int .u32 0, .int .u32 0, .int .u32 0, .int .u32 0, .int .u32 0, .int .u32 0, .int .u32 0, .int .u32 0, .int .u32 0, .int .u32 0, .int .u32 0, .int .u32 0, .int .u32 0, .int .u32 0, .int .u32 0, .int .u32 0, .int .u32 0, .int .u32 0, .int .u32 0, .int .u32 0, .int .u32 0, .int .u32 0, .int .u32 0, .int .u32 0, .int .u32 0, .int .u32 0] 143)) = .ok () (w3.alloc (.cells (wcl m 64).toArray 143)) := storeW _ w3
  have BW := Lib.hid (And.intro (Blk.new w3 (wcl m 64).toArray 143) ((Below.refl w3.heap.size w3).alloc (Nat.le_refl _) (.cells (wcl m 64).toArray 143)))
  have HB3 := Lib.hid hb3
  clear hb3
  go_upto_region 2 with fail
  generalize w3.alloc (.cells (wcl m 64).toArray 143) = w4 at *
  generalize hwb : w3.heap.size = wb at *
  have k24 : Below w2.heap.size w2 w4 := by
    have h1 := HB3.out
    have h2 := BW.out.2
    rw [← hwb] at h2
    exact h1.trans (h2.mono h1.size)
  have bs := HL.out.1.beyond k24
  have K24 := Lib.hid k24
  have hst2 := storeSt s w4
  have BV := Lib.hid (And.intro (Blk.new w4 (u32c s 8).toArray 123) ((Below.refl w4.heap.size w4).alloc (Nat.le_refl _) (.cells (u32c s 8).toArray 123)))
  have UI : (Tryz.prog.info? 123).map (·.size) = some (u32c s 8).toArray.size := by rw [List.size_toArray, u32c_length]; kernel_rfl
  replace UI := Lib.hid UI
  clear k24 hst
  go_upto_region 3 with (refine wpl_load rfl 123 (.tmp 2) rfl rfl bs Tryz.underlying123 UI.out ?_)
  generalize w4.alloc (.cells (u32c s 8).toArray 123) = w5 at *
  generalize hvb : w4.heap.size = vb at *
  clear hst2 bs
  go_wp2
  go_loopg [16] 64 (fun gh v wx => ∃ k : Nat, k ≤ 64 ∧ v = .int .i64 (k : Int) ∧ gh = 64 - k ∧ Hid (Blk wx vb (u32c (rnds m s k) 8).toArray 123 ∧ Keep (fun g => g = vb) w5 wx))
  case atStart => exact ⟨0, by omega, rfl, rfl, BV.out.1, Keep.refl _ _⟩
  case round =>
    obtain ⟨k, hk, rfl, hg, HR⟩ := hrel
    have HGK := Lib.hid hg
    clear hg
    by_cases hlt : k < 64
    · skip
      have BW5 : Blk wr wb (wcl m 64).toArray 143 := HR.out.2.blk (BW.out.1.beyond (by rw [hvb]; exact BV.out.2)) (by
        have h1 := BW.out.1.lt
        rw [hvb] at h1; show ¬ wb = vb; omega)
      have cw : wr.cell? ⟨wb, k, none⟩ = some (.int .u32 (iv (shw m k))) := by rw [BW5.cell, List.getElem?_toArray]; exact wcl_get m 64 k hlt (by omega)
      have hwl := BW5.lt
      have hvl := HR.out.1.lt
      have k64 : (k : Int) < 64 := by omega
      obtain ⟨σ, hσ⟩ : ∃ σ, σ = rnds m s k := ⟨_, rfl⟩
      rw [← hσ] at HR
      have HSG := Lib.hid hσ
      clear hσ BW5
      have q0 : wr.cell? ⟨vb, 0, none⟩ = some (.int .u32 (iv (σ 0))) := by rw [HR.out.1.cell, List.getElem?_toArray]; exact u32c_get σ 8 0 (by decide)
      have q1 : wr.cell? ⟨vb, 1, none⟩ = some (.int .u32 (iv (σ 1))) := by rw [HR.out.1.cell, List.getElem?_toArray]; exact u32c_get σ 8 1 (by decide)
      have q2 : wr.cell? ⟨vb, 2, none⟩ = some (.int .u32 (iv (σ 2))) := by rw [HR.out.1.cell, List.getElem?_toArray]; exact u32c_get σ 8 2 (by decide)
      have q3 : wr.cell? ⟨vb, 3, none⟩ = some (.int .u32 (iv (σ 3))) := by rw [HR.out.1.cell, List.getElem?_toArray]; exact u32c_get σ 8 3 (by decide)
      have q4 : wr.cell? ⟨vb, 4, none⟩ = some (.int .u32 (iv (σ 4))) := by rw [HR.out.1.cell, List.getElem?_toArray]; exact u32c_get σ 8 4 (by decide)
      have q5 : wr.cell? ⟨vb, 5, none⟩ = some (.int .u32 (iv (σ 5))) := by rw [HR.out.1.cell, List.getElem?_toArray]; exact u32c_get σ 8 5 (by decide)
      have q6 : wr.cell? ⟨vb, 6, none⟩ = some (.int .u32 (iv (σ 6))) := by rw [HR.out.1.cell, List.getElem?_toArray]; exact u32c_get σ 8 6 (by decide)
      have q7 : wr.cell? ⟨vb, 7, none⟩ = some (.int .u32 (iv (σ 7))) := by rw [HR.out.1.cell, List.getElem?_toArray]; exact u32c_get σ 8 7 (by decide)
      have ADD := iv_add
      have XOR := iv_xor
      have AND := iv_and
      have NOT := iv_not
      obtain ⟨kk, hkk⟩ : ∃ kk, kk = kw k := ⟨_, rfl⟩
      obtain ⟨ww, hww⟩ : ∃ ww, ww = shw m k := ⟨_, rfl⟩
      rw [← hww] at cw
      have HKK := Lib.hid hkk
      have HWW := Lib.hid hww
      clear hkk hww
      go_upto_region 6 with fail
      refine wp_region_held_drew (S := fun w' => w' = wr.drew) (by kernel_rfl) rfl (fun hS => ?_)
      refine tkH 0 (v := ?_) rfl (by kernel_rfl) ⟨by rfl, ?_⟩ hS ?_
      rotate_left
      · intro w0 hs; subst hs; go_simp; try (with_reducible rfl)
      try simp only [Act.put, List.setIfInBounds_toArray, List.set_cons_zero, List.set_cons_succ]
      refine tkH 1 (v := ?_) rfl (by kernel_rfl) ⟨by rfl, ?_⟩ hS ?_
      rotate_left
      · intro w0 hs; subst hs; go_simp; try (with_reducible rfl)
      try simp only [Act.put, List.setIfInBounds_toArray, List.set_cons_zero, List.set_cons_succ]
      refine tkH 3 (v := ?_) rfl (by kernel_rfl) ⟨by rfl, ?_⟩ hS ?_
      rotate_left
      · intro w0 hs; subst hs; go_simp; try (with_reducible rfl)
      try simp only [Act.put, List.setIfInBounds_toArray, List.set_cons_zero, List.set_cons_succ]
      refine tkH 4 (v := ?_) rfl (by kernel_rfl) ⟨by rfl, ?_⟩ hS ?_
      rotate_left
      · intro w0 hs; subst hs; go_simp; try (with_reducible rfl)
      try simp only [Act.put, List.setIfInBounds_toArray, List.set_cons_zero, List.set_cons_succ]
      refine tkH 7 (v := ?_) rfl (by kernel_rfl) ⟨by rfl, ?_⟩ hS ?_
      rotate_left
      · intro w0 hs; subst hs; go_simp; try (with_reducible rfl)
      try simp only [Act.put, List.setIfInBounds_toArray, List.set_cons_zero, List.set_cons_succ]
      refine tkH 8 (v := ?_) rfl (by kernel_rfl) ⟨by rfl, ?_⟩ hS ?_
      rotate_left
      · intro w0 hs; subst hs; go_simp; try (with_reducible rfl)
      try simp only [Act.put, List.setIfInBounds_toArray, List.set_cons_zero, List.set_cons_succ]
      refine wpAnyH_ready (rs := [2]) (by kernel_rfl) (by simp) ?_
      refine AllReadyH.cons (o := ⟨_, _, _, _, _, _⟩) rfl (fun K hK => ?_) AllReadyH.nil
      rw [if_pos (by rfl)]
      go_step
      refine (turned (σ 4) 6 (by decide) _).mono ?_
      rintro e v1 ⟨rfl, rfl⟩
      simp only []
      refine hK.out _ _ hS (fun hS' => ?_)
      clear hS hK
      have hS := hS'; clear hS'
      try simp only [Act.put, List.setIfInBounds_toArray, List.set_cons_zero, List.set_cons_succ]
      refine wpAnyH_ready (rs := [5]) (by kernel_rfl) (by simp) ?_
      refine AllReadyH.cons (o := ⟨_, _, _, _, _, _⟩) rfl (fun K hK => ?_) AllReadyH.nil
      rw [if_pos (by rfl)]
      go_step
      refine (turned (σ 4) 11 (by decide) _).mono ?_
      rintro e v2 ⟨rfl, rfl⟩
      simp only []
      refine hK.out _ _ hS (fun hS' => ?_)
      clear hS hK
      have hS := hS'; clear hS'
      try simp only [Act.put, List.setIfInBounds_toArray, List.set_cons_zero, List.set_cons_succ]
      refine tkH 6 (v := ?_) rfl (by kernel_rfl) ⟨by rfl, ?_⟩ hS ?_
      rotate_left
      · intro w0 hs; subst hs; go_simp; try (with_reducible rfl)
      try simp only [Act.put, List.setIfInBounds_toArray, List.set_cons_zero, List.set_cons_succ]
      refine wpAnyH_ready (rs := [9]) (by kernel_rfl) (by simp) ?_
      refine AllReadyH.cons (o := ⟨_, _, _, _, _, _⟩) rfl (fun K hK => ?_) AllReadyH.nil
      rw [if_pos (by rfl)]
      go_step
      refine (turned (σ 4) 25 (by decide) _).mono ?_
      rintro e v3 ⟨rfl, rfl⟩
      simp only []
      refine hK.out _ _ hS (fun hS' => ?_)
      clear hS hK
      have hS := hS'; clear hS'
      try simp only [Act.put, List.setIfInBounds_toArray, List.set_cons_zero, List.set_cons_succ]
      refine tkH 10 (v := ?_) rfl (by kernel_rfl) ⟨by rfl, ?_⟩ hS ?_
      rotate_left
      · intro w0 hs; subst hs; go_simp; try (with_reducible rfl)
      try simp only [Act.put, List.setIfInBounds_toArray, List.set_cons_zero, List.set_cons_succ]
      refine tkH 11 (v := ?_) rfl (by kernel_rfl) ⟨by rfl, ?_⟩ hS ?_
      rotate_left
      · intro w0 hs; subst hs; go_simp; try (with_reducible rfl)
      try simp only [Act.put, List.setIfInBounds_toArray, List.set_cons_zero, List.set_cons_succ]
      refine wpAnyH_done (by kernel_rfl) ?_ _
      clear hS
      go_upto_region 7 with fail
      refine wp_region_held_drew (S := fun w' => Below wr.heap.size wr w') (by kernel_rfl) ((Below.refl _ _).drew.drew) (fun hS => ?_)
      refine tkH 0 (v := ?_) rfl (by kernel_rfl) ⟨by rfl, ?_⟩ hS ?_
      rotate_left
      · intro w0 hs; have r4 := (hs.cell (p := ⟨vb, 4, none⟩) hvl).trans q4; have r5 := (hs.cell (p := ⟨vb, 5, none⟩) hvl).trans q5; have r6 := (hs.cell (p := ⟨vb, 6, none⟩) hvl).trans q6; have r7 := (hs.cell (p := ⟨vb, 7, none⟩) hvl).trans q7; have rw' := (hs.cell (p := ⟨wb, k, none⟩) hwl).trans cw; clear hs; go_simp; try (with_reducible rfl)
      try simp only [Act.put, List.setIfInBounds_toArray, List.set_cons_zero, List.set_cons_succ]
      refine tkH 1 (v := ?_) rfl (by kernel_rfl) ⟨by rfl, ?_⟩ hS ?_
      rotate_left
      · intro w0 hs; have r4 := (hs.cell (p := ⟨vb, 4, none⟩) hvl).trans q4; have r5 := (hs.cell (p := ⟨vb, 5, none⟩) hvl).trans q5; have r6 := (hs.cell (p := ⟨vb, 6, none⟩) hvl).trans q6; have r7 := (hs.cell (p := ⟨vb, 7, none⟩) hvl).trans q7; have rw' := (hs.cell (p := ⟨wb, k, none⟩) hwl).trans cw; clear hs; go_simp; try (with_reducible rfl)
      try simp only [Act.put, List.setIfInBounds_toArray, List.set_cons_zero, List.set_cons_succ]
      refine tkH 2 (v := ?_) rfl (by kernel_rfl) ⟨by rfl, ?_⟩ hS ?_
      rotate_left
      · intro w0 hs; have r4 := (hs.cell (p := ⟨vb, 4, none⟩) hvl).trans q4; have r5 := (hs.cell (p := ⟨vb, 5, none⟩) hvl).trans q5; have r6 := (hs.cell (p := ⟨vb, 6, none⟩) hvl).trans q6; have r7 := (hs.cell (p := ⟨vb, 7, none⟩) hvl).trans q7; have rw' := (hs.cell (p := ⟨wb, k, none⟩) hwl).trans cw; clear hs; go_simp; try (with_reducible rfl)
      try simp only [Act.put, List.setIfInBounds_toArray, List.set_cons_zero, List.set_cons_succ]
      refine tkH 3 (v := ?_) rfl (by kernel_rfl) ⟨by rfl, ?_⟩ hS ?_
      rotate_left
      · intro w0 hs; have r4 := (hs.cell (p := ⟨vb, 4, none⟩) hvl).trans q4; have r5 := (hs.cell (p := ⟨vb, 5, none⟩) hvl).trans q5; have r6 := (hs.cell (p := ⟨vb, 6, none⟩) hvl).trans q6; have r7 := (hs.cell (p := ⟨vb, 7, none⟩) hvl).trans q7; have rw' := (hs.cell (p := ⟨wb, k, none⟩) hwl).trans cw; clear hs; go_simp; try (with_reducible rfl)
      try simp only [Act.put, List.setIfInBounds_toArray, List.set_cons_zero, List.set_cons_succ]
      refine tkH 4 (v := ?_) rfl (by kernel_rfl) ⟨by rfl, ?_⟩ hS ?_
      rotate_left
      · intro w0 hs; have r4 := (hs.cell (p := ⟨vb, 4, none⟩) hvl).trans q4; have r5 := (hs.cell (p := ⟨vb, 5, none⟩) hvl).trans q5; have r6 := (hs.cell (p := ⟨vb, 6, none⟩) hvl).trans q6; have r7 := (hs.cell (p := ⟨vb, 7, none⟩) hvl).trans q7; have rw' := (hs.cell (p := ⟨wb, k, none⟩) hwl).trans cw; clear hs; go_simp; try (with_reducible rfl)
      try simp only [Act.put, List.setIfInBounds_toArray, List.set_cons_zero, List.set_cons_succ]
      refine tkH 5 (v := ?_) rfl (by kernel_rfl) ⟨by rfl, ?_⟩ hS ?_
      rotate_left
      · intro w0 hs; have r4 := (hs.cell (p := ⟨vb, 4, none⟩) hvl).trans q4; have r5 := (hs.cell (p := ⟨vb, 5, none⟩) hvl).trans q5; have r6 := (hs.cell (p := ⟨vb, 6, none⟩) hvl).trans q6; have r7 := (hs.cell (p := ⟨vb, 7, none⟩) hvl).trans q7; have rw' := (hs.cell (p := ⟨wb, k, none⟩) hwl).trans cw; clear hs; go_simp; try (with_reducible rfl)
      try simp only [Act.put, List.setIfInBounds_toArray, List.set_cons_zero, List.set_cons_succ]
      refine tkH 6 (v := ?_) rfl (by kernel_rfl) ⟨by rfl, ?_⟩ hS ?_
      rotate_left
      · intro w0 hs; have r4 := (hs.cell (p := ⟨vb, 4, none⟩) hvl).trans q4; have r5 := (hs.cell (p := ⟨vb, 5, none⟩) hvl).trans q5; have r6 := (hs.cell (p := ⟨vb, 6, none⟩) hvl).trans q6; have r7 := (hs.cell (p := ⟨vb, 7, none⟩) hvl).trans q7; have rw' := (hs.cell (p := ⟨wb, k, none⟩) hwl).trans cw; clear hs; go_simp; try (with_reducible rfl)
      try simp only [Act.put, List.setIfInBounds_toArray, List.set_cons_zero, List.set_cons_succ]
      refine tkH 7 (v := ?_) rfl (by kernel_rfl) ⟨by rfl, ?_⟩ hS ?_
      rotate_left
      · intro w0 hs; have r4 := (hs.cell (p := ⟨vb, 4, none⟩) hvl).trans q4; have r5 := (hs.cell (p := ⟨vb, 5, none⟩) hvl).trans q5; have r6 := (hs.cell (p := ⟨vb, 6, none⟩) hvl).trans q6; have r7 := (hs.cell (p := ⟨vb, 7, none⟩) hvl).trans q7; have rw' := (hs.cell (p := ⟨wb, k, none⟩) hwl).trans cw; clear hs; go_simp; try (with_reducible rfl)
      try simp only [Act.put, List.setIfInBounds_toArray, List.set_cons_zero, List.set_cons_succ]
      refine tkH 8 (v := ?_) rfl (by kernel_rfl) ⟨by rfl, ?_⟩ hS ?_
      rotate_left
      · intro w0 hs; have r4 := (hs.cell (p := ⟨vb, 4, none⟩) hvl).trans q4; have r5 := (hs.cell (p := ⟨vb, 5, none⟩) hvl).trans q5; have r6 := (hs.cell (p := ⟨vb, 6, none⟩) hvl).trans q6; have r7 := (hs.cell (p := ⟨vb, 7, none⟩) hvl).trans q7; have rw' := (hs.cell (p := ⟨wb, k, none⟩) hwl).trans cw; clear hs; go_simp; try (with_reducible rfl)
      try simp only [Act.put, List.setIfInBounds_toArray, List.set_cons_zero, List.set_cons_succ]
      refine tkH 9 (v := ?_) rfl (by kernel_rfl) ⟨by rfl, ?_⟩ hS ?_
      rotate_left
      · intro w0 hs; have r4 := (hs.cell (p := ⟨vb, 4, none⟩) hvl).trans q4; have r5 := (hs.cell (p := ⟨vb, 5, none⟩) hvl).trans q5; have r6 := (hs.cell (p := ⟨vb, 6, none⟩) hvl).trans q6; have r7 := (hs.cell (p := ⟨vb, 7, none⟩) hvl).trans q7; have rw' := (hs.cell (p := ⟨wb, k, none⟩) hwl).trans cw; clear hs; go_simp; try (with_reducible rfl)
      try simp only [Act.put, List.setIfInBounds_toArray, List.set_cons_zero, List.set_cons_succ]
      refine tkH 10 (v := ?_) rfl (by kernel_rfl) ⟨by rfl, ?_⟩ hS ?_
      rotate_left
      · intro w0 hs; have r4 := (hs.cell (p := ⟨vb, 4, none⟩) hvl).trans q4; have r5 := (hs.cell (p := ⟨vb, 5, none⟩) hvl).trans q5; have r6 := (hs.cell (p := ⟨vb, 6, none⟩) hvl).trans q6; have r7 := (hs.cell (p := ⟨vb, 7, none⟩) hvl).trans q7; have rw' := (hs.cell (p := ⟨wb, k, none⟩) hwl).trans cw; clear hs; go_simp; try (with_reducible rfl)
      try simp only [Act.put, List.setIfInBounds_toArray, List.set_cons_zero, List.set_cons_succ]
      refine tkH 11 (v := ?_) rfl (by kernel_rfl) ⟨by rfl, ?_⟩ hS ?_
      rotate_left
      · intro w0 hs; have r4 := (hs.cell (p := ⟨vb, 4, none⟩) hvl).trans q4; have r5 := (hs.cell (p := ⟨vb, 5, none⟩) hvl).trans q5; have r6 := (hs.cell (p := ⟨vb, 6, none⟩) hvl).trans q6; have r7 := (hs.cell (p := ⟨vb, 7, none⟩) hvl).trans q7; have rw' := (hs.cell (p := ⟨wb, k, none⟩) hwl).trans cw; clear hs; go_simp; try (with_reducible rfl)
      try simp only [Act.put, List.setIfInBounds_toArray, List.set_cons_zero, List.set_cons_succ]
      refine tkH 12 (v := ?_) rfl (by kernel_rfl) ⟨by rfl, ?_⟩ hS ?_
      rotate_left
      · intro w0 hs; have r4 := (hs.cell (p := ⟨vb, 4, none⟩) hvl).trans q4; have r5 := (hs.cell (p := ⟨vb, 5, none⟩) hvl).trans q5; have r6 := (hs.cell (p := ⟨vb, 6, none⟩) hvl).trans q6; have r7 := (hs.cell (p := ⟨vb, 7, none⟩) hvl).trans q7; have rw' := (hs.cell (p := ⟨wb, k, none⟩) hwl).trans cw; clear hs; go_simp; try (with_reducible rfl)
      try simp only [Act.put, List.setIfInBounds_toArray, List.set_cons_zero, List.set_cons_succ]
      refine tkH 13 (v := ?_) rfl (by kernel_rfl) ⟨by rfl, ?_⟩ hS ?_
      rotate_left
      · intro w0 hs; have r4 := (hs.cell (p := ⟨vb, 4, none⟩) hvl).trans q4; have r5 := (hs.cell (p := ⟨vb, 5, none⟩) hvl).trans q5; have r6 := (hs.cell (p := ⟨vb, 6, none⟩) hvl).trans q6; have r7 := (hs.cell (p := ⟨vb, 7, none⟩) hvl).trans q7; have rw' := (hs.cell (p := ⟨wb, k, none⟩) hwl).trans cw; clear hs; go_simp; try (with_reducible rfl)
      try simp only [Act.put, List.setIfInBounds_toArray, List.set_cons_zero, List.set_cons_succ]
      refine tkH 14 (v := ?_) rfl (by kernel_rfl) ⟨by rfl, ?_⟩ hS ?_
      rotate_left
      · intro w0 hs; have r4 := (hs.cell (p := ⟨vb, 4, none⟩) hvl).trans q4; have r5 := (hs.cell (p := ⟨vb, 5, none⟩) hvl).trans q5; have r6 := (hs.cell (p := ⟨vb, 6, none⟩) hvl).trans q6; have r7 := (hs.cell (p := ⟨vb, 7, none⟩) hvl).trans q7; have rw' := (hs.cell (p := ⟨wb, k, none⟩) hwl).trans cw; clear hs; go_simp; try (with_reducible rfl)
      try simp only [Act.put, List.setIfInBounds_toArray, List.set_cons_zero, List.set_cons_succ]
      refine tkH 15 (v := ?_) rfl (by kernel_rfl) ⟨by rfl, ?_⟩ hS ?_
      rotate_left
      · intro w0 hs; have r4 := (hs.cell (p := ⟨vb, 4, none⟩) hvl).trans q4; have r5 := (hs.cell (p := ⟨vb, 5, none⟩) hvl).trans q5; have r6 := (hs.cell (p := ⟨vb, 6, none⟩) hvl).trans q6; have r7 := (hs.cell (p := ⟨vb, 7, none⟩) hvl).trans q7; have rw' := (hs.cell (p := ⟨wb, k, none⟩) hwl).trans cw; clear hs; go_simp; try (with_reducible rfl)
      try simp only [Act.put, List.setIfInBounds_toArray, List.set_cons_zero, List.set_cons_succ]
      refine tkH 16 (v := ?_) rfl (by kernel_rfl) ⟨by rfl, ?_⟩ hS ?_
      rotate_left
      · intro w0 hs; have r4 := (hs.cell (p := ⟨vb, 4, none⟩) hvl).trans q4; have r5 := (hs.cell (p := ⟨vb, 5, none⟩) hvl).trans q5; have r6 := (hs.cell (p := ⟨vb, 6, none⟩) hvl).trans q6; have r7 := (hs.cell (p := ⟨vb, 7, none⟩) hvl).trans q7; have rw' := (hs.cell (p := ⟨wb, k, none⟩) hwl).trans cw; clear hs; go_simp; try (with_reducible rfl)
      try simp only [Act.put, List.setIfInBounds_toArray, List.set_cons_zero, List.set_cons_succ]
      refine tkH 17 (v := ?_) rfl (by kernel_rfl) ⟨by rfl, ?_⟩ hS ?_
      rotate_left
      · intro w0 hs; have r4 := (hs.cell (p := ⟨vb, 4, none⟩) hvl).trans q4; have r5 := (hs.cell (p := ⟨vb, 5, none⟩) hvl).trans q5; have r6 := (hs.cell (p := ⟨vb, 6, none⟩) hvl).trans q6; have r7 := (hs.cell (p := ⟨vb, 7, none⟩) hvl).trans q7; have rw' := (hs.cell (p := ⟨wb, k, none⟩) hwl).trans cw; clear hs; go_simp; try (with_reducible rfl)
      try simp only [Act.put, List.setIfInBounds_toArray, List.set_cons_zero, List.set_cons_succ]
      refine tkH 20 (v := ?_) rfl (by kernel_rfl) ⟨by rfl, ?_⟩ hS ?_
      rotate_left
      · intro w0 hs; have r4 := (hs.cell (p := ⟨vb, 4, none⟩) hvl).trans q4; have r5 := (hs.cell (p := ⟨vb, 5, none⟩) hvl).trans q5; have r6 := (hs.cell (p := ⟨vb, 6, none⟩) hvl).trans q6; have r7 := (hs.cell (p := ⟨vb, 7, none⟩) hvl).trans q7; have rw' := (hs.cell (p := ⟨wb, k, none⟩) hwl).trans cw; clear hs; go_simp; try (with_reducible rfl)
      try simp only [Act.put, List.setIfInBounds_toArray, List.set_cons_zero, List.set_cons_succ]
      refine tkH 21 (v := ?_) rfl (by kernel_rfl) ⟨by rfl, ?_⟩ hS ?_
      rotate_left
      · intro w0 hs; have r4 := (hs.cell (p := ⟨vb, 4, none⟩) hvl).trans q4; have r5 := (hs.cell (p := ⟨vb, 5, none⟩) hvl).trans q5; have r6 := (hs.cell (p := ⟨vb, 6, none⟩) hvl).trans q6; have r7 := (hs.cell (p := ⟨vb, 7, none⟩) hvl).trans q7; have rw' := (hs.cell (p := ⟨wb, k, none⟩) hwl).trans cw; clear hs; go_simp; try (with_reducible rfl)
      try simp only [Act.put, List.setIfInBounds_toArray, List.set_cons_zero, List.set_cons_succ]
      refine tkH 22 (v := ?_) rfl (by kernel_rfl) ⟨by rfl, ?_⟩ hS ?_
      rotate_left
      · intro w0 hs; have r4 := (hs.cell (p := ⟨vb, 4, none⟩) hvl).trans q4; have r5 := (hs.cell (p := ⟨vb, 5, none⟩) hvl).trans q5; have r6 := (hs.cell (p := ⟨vb, 6, none⟩) hvl).trans q6; have r7 := (hs.cell (p := ⟨vb, 7, none⟩) hvl).trans q7; have rw' := (hs.cell (p := ⟨wb, k, none⟩) hwl).trans cw; clear hs; go_simp; try (with_reducible rfl)
      try simp only [Act.put, List.setIfInBounds_toArray, List.set_cons_zero, List.set_cons_succ]
      refine wpAnyH_ready (rs := [18]) (by kernel_rfl) (by simp) ?_
      refine AllReadyH.cons (o := ⟨_, _, _, _, _, _⟩) rfl (fun K hK => ?_) AllReadyH.nil
      rw [if_pos (by rfl)]
      go_step
      refine (constant k hlt _).mono ?_
      rintro e y1 ⟨rfl, hb7⟩
      simp only []
      refine hK.out _ _ (hS.trans (hb7.mono hS.size)) (fun hS' => ?_)
      clear hS hK
      have hS := hS'; clear hS'
      try simp only [Act.put, List.setIfInBounds_toArray, List.set_cons_zero, List.set_cons_succ]
      refine tkH 19 (v := ?_) rfl (by kernel_rfl) ⟨by rfl, ?_⟩ hS ?_
      rotate_left
      · intro w0 hs; have r4 := (hs.cell (p := ⟨vb, 4, none⟩) hvl).trans q4; have r5 := (hs.cell (p := ⟨vb, 5, none⟩) hvl).trans q5; have r6 := (hs.cell (p := ⟨vb, 6, none⟩) hvl).trans q6; have r7 := (hs.cell (p := ⟨vb, 7, none⟩) hvl).trans q7; have rw' := (hs.cell (p := ⟨wb, k, none⟩) hwl).trans cw; clear hs; go_simp; try (with_reducible rfl)
      try simp only [Act.put, List.setIfInBounds_toArray, List.set_cons_zero, List.set_cons_succ]
      refine tkH 23 (v := ?_) rfl (by kernel_rfl) ⟨by rfl, ?_⟩ hS ?_
      rotate_left
      · intro w0 hs; have r4 := (hs.cell (p := ⟨vb, 4, none⟩) hvl).trans q4; have r5 := (hs.cell (p := ⟨vb, 5, none⟩) hvl).trans q5; have r6 := (hs.cell (p := ⟨vb, 6, none⟩) hvl).trans q6; have r7 := (hs.cell (p := ⟨vb, 7, none⟩) hvl).trans q7; have rw' := (hs.cell (p := ⟨wb, k, none⟩) hwl).trans cw; clear hs; go_simp; try (with_reducible rfl)
      try simp only [Act.put, List.setIfInBounds_toArray, List.set_cons_zero, List.set_cons_succ]
      refine tkH 24 (v := ?_) rfl (by kernel_rfl) ⟨by rfl, ?_⟩ hS ?_
      rotate_left
      · intro w0 hs; have r4 := (hs.cell (p := ⟨vb, 4, none⟩) hvl).trans q4; have r5 := (hs.cell (p := ⟨vb, 5, none⟩) hvl).trans q5; have r6 := (hs.cell (p := ⟨vb, 6, none⟩) hvl).trans q6; have r7 := (hs.cell (p := ⟨vb, 7, none⟩) hvl).trans q7; have rw' := (hs.cell (p := ⟨wb, k, none⟩) hwl).trans cw; clear hs; go_simp; try (with_reducible rfl)
      try simp only [Act.put, List.setIfInBounds_toArray, List.set_cons_zero, List.set_cons_succ]
      refine wpAnyH_done (by kernel_rfl) ?_ _
      have HY := Lib.hid hS
      have BY := HR.out.1.beyond hS
      clear hS hb7
      clear q0 q1 q2 q3 q4 q5 q6 q7 cw
      have q0 : y1.cell? ⟨vb, 0, none⟩ = some (.int .u32 (iv (σ 0))) := by rw [BY.cell, List.getElem?_toArray]; exact u32c_get σ 8 0 (by decide)
      have q1 : y1.cell? ⟨vb, 1, none⟩ = some (.int .u32 (iv (σ 1))) := by rw [BY.cell, List.getElem?_toArray]; exact u32c_get σ 8 1 (by decide)
      have q2 : y1.cell? ⟨vb, 2, none⟩ = some (.int .u32 (iv (σ 2))) := by rw [BY.cell, List.getElem?_toArray]; exact u32c_get σ 8 2 (by decide)
      go_upto_region 8 with fail
      refine wp_region_held_drew (S := fun w' => w' = y1.drew) (by kernel_rfl) rfl (fun hS => ?_)
      refine tkH 0 (v := ?_) rfl (by kernel_rfl) ⟨by rfl, ?_⟩ hS ?_
      rotate_left
      · intro w0 hs; subst hs; go_simp; try (with_reducible rfl)
      try simp only [Act.put, List.setIfInBounds_toArray, List.set_cons_zero, List.set_cons_succ]
      refine tkH 1 (v := ?_) rfl (by kernel_rfl) ⟨by rfl, ?_⟩ hS ?_
      rotate_left
      · intro w0 hs; subst hs; go_simp; try (with_reducible rfl)
      try simp only [Act.put, List.setIfInBounds_toArray, List.set_cons_zero, List.set_cons_succ]
      refine tkH 3 (v := ?_) rfl (by kernel_rfl) ⟨by rfl, ?_⟩ hS ?_
      rotate_left
      · intro w0 hs; subst hs; go_simp; try (with_reducible rfl)
      try simp only [Act.put, List.setIfInBounds_toArray, List.set_cons_zero, List.set_cons_succ]
      refine tkH 4 (v := ?_) rfl (by kernel_rfl) ⟨by rfl, ?_⟩ hS ?_
      rotate_left
      · intro w0 hs; subst hs; go_simp; try (with_reducible rfl)
      try simp only [Act.put, List.setIfInBounds_toArray, List.set_cons_zero, List.set_cons_succ]
      refine tkH 7 (v := ?_) rfl (by kernel_rfl) ⟨by rfl, ?_⟩ hS ?_
      rotate_left
      · intro w0 hs; subst hs; go_simp; try (with_reducible rfl)
      try simp only [Act.put, List.setIfInBounds_toArray, List.set_cons_zero, List.set_cons_succ]
      refine tkH 8 (v := ?_) rfl (by kernel_rfl) ⟨by rfl, ?_⟩ hS ?_
      rotate_left
      · intro w0 hs; subst hs; go_simp; try (with_reducible rfl)
      try simp only [Act.put, List.setIfInBounds_toArray, List.set_cons_zero, List.set_cons_succ]
      refine tkH 11 (v := ?_) rfl (by kernel_rfl) ⟨by rfl, ?_⟩ hS ?_
      rotate_left
      · intro w0 hs; subst hs; go_simp; try (with_reducible rfl)
      try simp only [Act.put, List.setIfInBounds_toArray, List.set_cons_zero, List.set_cons_succ]
      refine tkH 12 (v := ?_) rfl (by kernel_rfl) ⟨by rfl, ?_⟩ hS ?_
      rotate_left
      · intro w0 hs; subst hs; go_simp; try (with_reducible rfl)
      try simp only [Act.put, List.setIfInBounds_toArray, List.set_cons_zero, List.set_cons_succ]
      refine tkH 13 (v := ?_) rfl (by kernel_rfl) ⟨by rfl, ?_⟩ hS ?_
      rotate_left
      · intro w0 hs; subst hs; go_simp; try (with_reducible rfl)
      try simp only [Act.put, List.setIfInBounds_toArray, List.set_cons_zero, List.set_cons_succ]
      refine tkH 14 (v := ?_) rfl (by kernel_rfl) ⟨by rfl, ?_⟩ hS ?_
      rotate_left
      · intro w0 hs; subst hs; go_simp; try (with_reducible rfl)
      try simp only [Act.put, List.setIfInBounds_toArray, List.set_cons_zero, List.set_cons_succ]
      refine tkH 15 (v := ?_) rfl (by kernel_rfl) ⟨by rfl, ?_⟩ hS ?_
      rotate_left
      · intro w0 hs; subst hs; go_simp; try (with_reducible rfl)
      try simp only [Act.put, List.setIfInBounds_toArray, List.set_cons_zero, List.set_cons_succ]
      refine tkH 16 (v := ?_) rfl (by kernel_rfl) ⟨by rfl, ?_⟩ hS ?_
      rotate_left
      · intro w0 hs; subst hs; go_simp; try (with_reducible rfl)
      try simp only [Act.put, List.setIfInBounds_toArray, List.set_cons_zero, List.set_cons_succ]
      refine tkH 17 (v := ?_) rfl (by kernel_rfl) ⟨by rfl, ?_⟩ hS ?_
      rotate_left
      · intro w0 hs; subst hs; go_simp; try (with_reducible rfl)
      try simp only [Act.put, List.setIfInBounds_toArray, List.set_cons_zero, List.set_cons_succ]
      refine tkH 18 (v := ?_) rfl (by kernel_rfl) ⟨by rfl, ?_⟩ hS ?_
      rotate_left
      · intro w0 hs; subst hs; go_simp; try (with_reducible rfl)
      try simp only [Act.put, List.setIfInBounds_toArray, List.set_cons_zero, List.set_cons_succ]
      refine tkH 19 (v := ?_) rfl (by kernel_rfl) ⟨by rfl, ?_⟩ hS ?_
      rotate_left
      · intro w0 hs; subst hs; go_simp; try (with_reducible rfl)
      try simp only [Act.put, List.setIfInBounds_toArray, List.set_cons_zero, List.set_cons_succ]
      refine tkH 20 (v := ?_) rfl (by kernel_rfl) ⟨by rfl, ?_⟩ hS ?_
      rotate_left
      · intro w0 hs; subst hs; go_simp; try (with_reducible rfl)
      try simp only [Act.put, List.setIfInBounds_toArray, List.set_cons_zero, List.set_cons_succ]
      refine tkH 21 (v := ?_) rfl (by kernel_rfl) ⟨by rfl, ?_⟩ hS ?_
      rotate_left
      · intro w0 hs; subst hs; go_simp; try (with_reducible rfl)
      try simp only [Act.put, List.setIfInBounds_toArray, List.set_cons_zero, List.set_cons_succ]
      refine tkH 22 (v := ?_) rfl (by kernel_rfl) ⟨by rfl, ?_⟩ hS ?_
      rotate_left
      · intro w0 hs; subst hs; go_simp; try (with_reducible rfl)
      try simp only [Act.put, List.setIfInBounds_toArray, List.set_cons_zero, List.set_cons_succ]
      refine tkH 23 (v := ?_) rfl (by kernel_rfl) ⟨by rfl, ?_⟩ hS ?_
      rotate_left
      · intro w0 hs; subst hs; go_simp; try (with_reducible rfl)
      try simp only [Act.put, List.setIfInBounds_toArray, List.set_cons_zero, List.set_cons_succ]
      refine tkH 24 (v := ?_) rfl (by kernel_rfl) ⟨by rfl, ?_⟩ hS ?_
      rotate_left
      · intro w0 hs; subst hs; go_simp; try (with_reducible rfl)
      try simp only [Act.put, List.setIfInBounds_toArray, List.set_cons_zero, List.set_cons_succ]
      refine tkH 25 (v := ?_) rfl (by kernel_rfl) ⟨by rfl, ?_⟩ hS ?_
      rotate_left
      · intro w0 hs; subst hs; go_simp; try (with_reducible rfl)
      try simp only [Act.put, List.setIfInBounds_toArray, List.set_cons_zero, List.set_cons_succ]
      refine tkH 26 (v := ?_) rfl (by kernel_rfl) ⟨by rfl, ?_⟩ hS ?_
      rotate_left
      · intro w0 hs; subst hs; go_simp; try (with_reducible rfl)
      try simp only [Act.put, List.setIfInBounds_toArray, List.set_cons_zero, List.set_cons_succ]
      refine tkH 27 (v := ?_) rfl (by kernel_rfl) ⟨by rfl, ?_⟩ hS ?_
      rotate_left
      · intro w0 hs; subst hs; go_simp; try (with_reducible rfl)
      try simp only [Act.put, List.setIfInBounds_toArray, List.set_cons_zero, List.set_cons_succ]
      refine wpAnyH_ready (rs := [2]) (by kernel_rfl) (by simp) ?_
      refine AllReadyH.cons (o := ⟨_, _, _, _, _, _⟩) rfl (fun K hK => ?_) AllReadyH.nil
      rw [if_pos (by rfl)]
      go_step
      refine (turned (σ 0) 2 (by decide) _).mono ?_
      rintro e z1 ⟨rfl, rfl⟩
      simp only []
      refine hK.out _ _ hS (fun hS' => ?_)
      clear hS hK
      have hS := hS'; clear hS'
      try simp only [Act.put, List.setIfInBounds_toArray, List.set_cons_zero, List.set_cons_succ]
      refine wpAnyH_ready (rs := [5]) (by kernel_rfl) (by simp) ?_
      refine AllReadyH.cons (o := ⟨_, _, _, _, _, _⟩) rfl (fun K hK => ?_) AllReadyH.nil
      rw [if_pos (by rfl)]
      go_step
      refine (turned (σ 0) 13 (by decide) _).mono ?_
      rintro e z2 ⟨rfl, rfl⟩
      simp only []
      refine hK.out _ _ hS (fun hS' => ?_)
      clear hS hK
      have hS := hS'; clear hS'
      try simp only [Act.put, List.setIfInBounds_toArray, List.set_cons_zero, List.set_cons_succ]
      refine tkH 6 (v := ?_) rfl (by kernel_rfl) ⟨by rfl, ?_⟩ hS ?_
      rotate_left
      · intro w0 hs; subst hs; go_simp; try (with_reducible rfl)
      try simp only [Act.put, List.setIfInBounds_toArray, List.set_cons_zero, List.set_cons_succ]
      refine wpAnyH_ready (rs := [9]) (by kernel_rfl) (by simp) ?_
      refine AllReadyH.cons (o := ⟨_, _, _, _, _, _⟩) rfl (fun K hK => ?_) AllReadyH.nil
      rw [if_pos (by rfl)]
      go_step
      refine (turned (σ 0) 22 (by decide) _).mono ?_
      rintro e z3 ⟨rfl, rfl⟩
      simp only []
      refine hK.out _ _ hS (fun hS' => ?_)
      clear hS hK
      have hS := hS'; clear hS'
      try simp only [Act.put, List.setIfInBounds_toArray, List.set_cons_zero, List.set_cons_succ]
      refine tkH 10 (v := ?_) rfl (by kernel_rfl) ⟨by rfl, ?_⟩ hS ?_
      rotate_left
      · intro w0 hs; subst hs; go_simp; try (with_reducible rfl)
      try simp only [Act.put, List.setIfInBounds_toArray, List.set_cons_zero, List.set_cons_succ]
      refine tkH 28 (v := ?_) rfl (by kernel_rfl) ⟨by rfl, ?_⟩ hS ?_
      rotate_left
      · intro w0 hs; subst hs; go_simp; try (with_reducible rfl)
      try simp only [Act.put, List.setIfInBounds_toArray, List.set_cons_zero, List.set_cons_succ]
      refine tkH 29 (v := ?_) rfl (by kernel_rfl) ⟨by rfl, ?_⟩ hS ?_
      rotate_left
      · intro w0 hs; subst hs; go_simp; try (with_reducible rfl)
      try simp only [Act.put, List.setIfInBounds_toArray, List.set_cons_zero, List.set_cons_succ]
      refine wpAnyH_done (by kernel_rfl) ?_ _
      clear hS q0 q1 q2
      replace BY := Lib.hid BY.drew
      go_upto_region 9 with fail
      generalize hy1 : y1.drew = w7 at *
      go_wp2
      go_loopg [11] 7 (fun gh v wx => ∃ t : Nat, t ≤ 7 ∧ v = .int .i64 (t : Int) ∧ gh = t ∧ Hid (Blk wx vb (u32c (down σ t) 8).toArray 123 ∧ Keep (fun g => g = vb) w7 wx))
      case atStart => exact ⟨7, by omega, rfl, rfl, by rw [u32c_ext (t := σ) (fun i hi => by unfold down; rw [if_neg (by omega)])]; exact BY.out, Keep.refl _ _⟩
      case round =>
        obtain ⟨t, ht, rfl, hg, HT⟩ := hrel
        have HGT := Lib.hid hg
        clear hg
        by_cases ht0 : 0 < t
        · skip
          have c1 : wr.cell? ⟨vb, t - 1, none⟩ = some (.int .u32 (iv (σ (t - 1)))) := by
            rw [HT.out.1.cell, List.getElem?_toArray, u32c_get _ 8 _ (by omega)]; unfold down; rw [if_neg (by omega)]
          have cz : wr.cell? ⟨vb, t, none⟩ = some (.int .u32 (iv (down σ t t))) := by
            rw [HT.out.1.cell, List.getElem?_toArray, u32c_get _ 8 _ (by omega)]
          have fz := HT.out.1.free t
          have a1 : IntKind.i64.wrap ((t : Int) - 1) = (t : Int) - 1 := by rw [IntKind.wrap_i64]; omega
          have a2 : ((t : Int) - 1).toNat = t - 1 := by omega
          have a3 : (t : Int) - 1 < 8 := by omega
          have a4 : (1 : Int) ≤ (t : Int) := by omega
          have a5 : (t : Int) < 8 := by omega
          have a6 : (0 : Int) < (t : Int) := by omega
          have HD := Lib.hid (down_step σ t ht0)
          generalize down σ t t = dz at *
          go_wp2
          go_roundg (t - 1)
          case measure => rw [HGT.out]; omega
          case rel =>
            refine ⟨t - 1, by omega, congrArg (Value.int .i64) (by omega), rfl, ?_, HT.out.2.trans ((Keep.refl (fun g => g = vb) wr).set (p := ⟨vb, t, none⟩) (.inl rfl) _)⟩
            have := HT.out.1.set t (.int .u32 (iv (σ (t - 1))))
            rw [u32c_set _ 8 t _ (by omega), u32c_ext (fun i _ => HD.out i)] at this
            exact this
        · obtain rfl : t = 0 := by omega
          have z0 : wr.cell? ⟨vb, 0, none⟩ = some (.int .u32 (iv (down σ 0 0))) := by rw [HT.out.1.cell, List.getElem?_toArray, u32c_get _ 8 _ (by omega)]
          have z4 : wr.cell? ⟨vb, 4, none⟩ = some (.int .u32 (iv (σ 3))) := by rw [HT.out.1.cell, List.getElem?_toArray, u32c_get _ 8 _ (by omega)]; rfl
          have f0 := HT.out.1.free 0
          have f4 := HT.out.1.free 4
          generalize down σ 0 0 = d0 at *
          go_wp2
          go_roundg (64 - (k + 1))
          case measure => rw [HGK.out]; omega
          case rel =>
            have kb := (Keep.of_below (X := fun g => g = vb) HY.out).drew
            rw [hy1] at kb
            refine ⟨k + 1, hlt, rfl, rfl, ?_, ((HR.out.2.trans kb).trans HT.out.2).trans ((((Keep.refl (fun g => g = vb) wr).set (p := ⟨vb, 0, none⟩) (.inl rfl) _).set (p := ⟨vb, 4, none⟩) (.inl rfl) _))⟩
            have := (HT.out.1.set 0 (.int .u32 (iv (T1 σ (kw k) ww + T2 σ)))).set 4 (.int .u32 (iv (σ 3 + T1 σ (kw k) ww)))
            rw [u32c_set _ 8 0 _ (by decide), u32c_set _ 8 4 _ (by decide), u32c_ext (t := rnds m s (k + 1)) (fun i hi => ?_)] at this
            · exact this
            · show _ = rnd (rnds m s k) (kw k) (shw m k) i
              rw [← HSG.out, ← HWW.out]
              unfold rnd
              by_cases h4 : i = 4
              · subst h4; rfl
              · by_cases h0 : i = 0
                · subst h0; rfl
                · rw [if_neg h4, if_neg h0, if_neg h0, if_neg h4]
                  unfold down; rw [if_pos (by omega)]
    · obtain rfl : k = 64 := by omega
      generalize wr = w8 at *
      obtain ⟨σ, hσ⟩ : ∃ σ, σ = rnds m s 64 := ⟨_, rfl⟩
      rw [← hσ] at HR
      have HSG := Lib.hid hσ
      clear hσ
      have hvsb : sb < vb := by
        have h1 := HL.out.1.lt
        have h2 := K24.out.size
        rw [hvb] at h2; omega
      have BS8 := Lib.hid (HR.out.2.blk ((HL.out.1.beyond K24.out).beyond (by rw [hvb]; exact BV.out.2)) (by show ¬ sb = vb; omega))
      go_wp2
      go_loopg [103] 8 (fun gh v wx => ∃ j : Nat, j ≤ 8 ∧ v = .int .i64 (j : Int) ∧ gh = 8 - j ∧ Hid (Blk wx vb (u32c (fun i => if i < j then s i + σ i else σ i) 8).toArray 123 ∧ Keep (fun g => g = vb) w8 wx))
      case atStart => exact ⟨0, by omega, rfl, rfl, by rw [u32c_ext (t := σ) (fun i _ => if_neg (by omega))]; exact HR.out.1, Keep.refl _ _⟩
      case round =>
        obtain ⟨j, hj, rfl, hg, HJ⟩ := hrel
        have HGJ := Lib.hid hg
        clear hg
        by_cases hjl : j < 8
        · skip
          have c1 : wr.drew.cell? ⟨vb, j, none⟩ = some (.int .u32 (iv (σ j))) := by
            rw [HJ.out.1.drew.cell, List.getElem?_toArray, u32c_get _ 8 _ hjl, if_neg (by omega)]
          have c2 : wr.drew.cell? ⟨sb, j, none⟩ = some (.int .u32 (iv (s j))) := by
            rw [(HJ.out.2.blk BS8.out (by show ¬ sb = vb; omega)).drew.cell, List.getElem?_toArray, u32c_get _ 8 _ hjl]
          have fz := HJ.out.1.drew.free j
          have j8 : (j : Int) < 8 := by omega
          have ADD := iv_add
          go_upto_region 19 with fail
          refine wp_region_last 9 (fun w' => w' = wr.drew) (by kernel_rfl) rfl (fun hS => ?_)
          refine tkL 0 (v := ?_) rfl (by kernel_rfl) ⟨by rfl, ?_⟩ hS ?_
          rotate_left
          · intro w0 hs; subst hs; go_simp; try (with_reducible rfl)
          try simp only [Act.put, List.setIfInBounds_toArray, List.set_cons_zero, List.set_cons_succ]
          refine tkL 1 (v := ?_) rfl (by kernel_rfl) ⟨by rfl, ?_⟩ hS ?_
          rotate_left
          · intro w0 hs; subst hs; go_simp; try (with_reducible rfl)
          try simp only [Act.put, List.setIfInBounds_toArray, List.set_cons_zero, List.set_cons_succ]
          refine tkL 2 (v := ?_) rfl (by kernel_rfl) ⟨by rfl, ?_⟩ hS ?_
          rotate_left
          · intro w0 hs; subst hs; go_simp; try (with_reducible rfl)
          try simp only [Act.put, List.setIfInBounds_toArray, List.set_cons_zero, List.set_cons_succ]
          refine tkL 3 (v := ?_) rfl (by kernel_rfl) ⟨by rfl, ?_⟩ hS ?_
          rotate_left
          · intro w0 hs; subst hs; go_simp; try (with_reducible rfl)
          try simp only [Act.put, List.setIfInBounds_toArray, List.set_cons_zero, List.set_cons_succ]
          refine tkL 4 (v := ?_) rfl (by kernel_rfl) ⟨by rfl, ?_⟩ hS ?_
          rotate_left
          · intro w0 hs; subst hs; go_simp; try (with_reducible rfl)
          try simp only [Act.put, List.setIfInBounds_toArray, List.set_cons_zero, List.set_cons_succ]
          refine tkL 5 (v := ?_) rfl (by kernel_rfl) ⟨by rfl, ?_⟩ hS ?_
          rotate_left
          · intro w0 hs; subst hs; go_simp; try (with_reducible rfl)
          try simp only [Act.put, List.setIfInBounds_toArray, List.set_cons_zero, List.set_cons_succ]
          refine tkL 6 (v := ?_) rfl (by kernel_rfl) ⟨by rfl, ?_⟩ hS ?_
          rotate_left
          · intro w0 hs; subst hs; go_simp; try (with_reducible rfl)
          try simp only [Act.put, List.setIfInBounds_toArray, List.set_cons_zero, List.set_cons_succ]
          refine tkL 7 (v := ?_) rfl (by kernel_rfl) ⟨by rfl, ?_⟩ hS ?_
          rotate_left
          · intro w0 hs; subst hs; go_simp; try (with_reducible rfl)
          try simp only [Act.put, List.setIfInBounds_toArray, List.set_cons_zero, List.set_cons_succ]
          refine tkL 8 (v := ?_) rfl (by kernel_rfl) ⟨by rfl, ?_⟩ hS ?_
          rotate_left
          · intro w0 hs; subst hs; go_simp; try (with_reducible rfl)
          try simp only [Act.put, List.setIfInBounds_toArray, List.set_cons_zero, List.set_cons_succ]
          refine wpAnyL_one (i := 9) (oi := ⟨_, _, _, _, _, _⟩) rfl (by kernel_rfl) (fun K hK => ?_)
          rw [if_pos (by rfl)]
          clear hS
          go_simp
          refine hK.out _ _ (.inl rfl) ?_
          clear hK
          try simp only [Act.put, List.setIfInBounds_toArray, List.set_cons_zero, List.set_cons_succ]
          refine wpAnyL_done (by kernel_rfl) ?_ _
          go_wp2
          go_roundg (8 - (j + 1))
          case measure => rw [HGJ.out]; omega
          case rel =>
            refine ⟨j + 1, hjl, rfl, rfl, ?_, HJ.out.2.trans (((Keep.refl (fun g => g = vb) wr).set (p := ⟨vb, j, none⟩) (.inl rfl) _).drew)⟩
            have := (HJ.out.1.set j (.int .u32 (iv (σ j + s j)))).drew
            rw [u32c_set _ 8 j _ hjl, u32c_ext (t := fun i => if i < j + 1 then s i + σ i else σ i) (fun i hi => ?_)] at this
            · exact this
            · by_cases h1 : i = j
              · subst h1; rw [if_pos rfl, if_pos (by omega), BitVec.add_comm]
              · rw [if_neg h1]
                by_cases h2 : i < j
                · rw [if_pos h2, if_pos (by omega)]
                · rw [if_neg h2, if_neg (by omega)]
        · obtain rfl : j = 8 := by omega
          have bw : Blk wr vb (u32c (blockS s m) 8).toArray 123 := by
            have := HJ.out.1
            rw [u32c_ext (t := blockS s m) (fun i hi => by rw [if_pos hi, HSG.out]; rfl)] at this
            exact this
          have k2r : Keep (fun g => g = vb) w2 wr := (((Keep.of_below K24.out).trans (Keep.of_below (by rw [hvb]; exact BV.out.2))).trans HR.out.2).trans HJ.out.2
          have hv1 : sb + 1 < vb := by
            have h1 := HL.out.2.1.lt
            have h2 := K24.out.size
            rw [hvb] at h2; omega
          have br := k2r.blk HL.out.2.1 (by show ¬ sb + 1 = vb; omega)
          have U8 : (Tryz.prog.info? 123).map (·.size) = some (u32c (blockS s m) 8).toArray.size := by rw [List.size_toArray, u32c_length]; kernel_rfl
          have one : (u32c (blockS s m) 8).toArray.all (·.oneCell') = true := by
            rw [Array.all_eq_true_iff_forall_mem]
            intro u hu
            exact u32c_one _ _ u (by simpa using hu)
          have szz : (8 : Nat) = (u32c (blockS s m) 8).toArray.size := by rw [List.size_toArray, u32c_length]
          replace U8 := Lib.hid U8
          replace one := Lib.hid one
          replace szz := Lib.hid szz
          have K2R := Lib.hid k2r
          clear k2r
          go_wp2_with (first | (refine wpl_load rfl 123 (.tmp 6) rfl rfl bw Tryz.underlying123 U8.out ?_) | (refine wpl_store rfl 123 (.tmp 4) (.tmp 116) rfl rfl rfl br szz.out U8.out one.out ?_))
          have bf := br.setAll (u32c (blockS s m) 8).toArray szz.out
          have b0 := HL.out.2.2
          have b1 := b0.trans (K2R.out.below (by rw [← hgw]; exact b0.size) (fun g h => by rw [h]; omega))
          have b2 := below_setCells (B := sb) (g := sb + 1) (by omega) (u32c (blockS s m) 8).toArray.toList 0 wr b1
          exact bodyPost_ret (v := .agg (u32c (blockS s m) 8).toArray) (results_blk Tryz.results95 _ _ rfl bf Tryz.underlying123 U8.out) rfl ⟨by rw [HM.out], by rw [hgw]; exact b2⟩
end Go.Proofs.YtbjbjgfjaopibaaGreatDoor
end
