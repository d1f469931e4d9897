/- The law FilterSums. -/
import Derived.Test.YtppcccocnmhbgaaDoorSums
import Derived.Test.YtppcccocnmhbgaaDoorGlob
import Derived.Test.YtppcccocnmhbgaaDoorOpenBytes
namespace Go.Proofs.YtppcccocnmhbgaaDoor
open Go Go.RowKit
set_option linter.unusedSimpArgs false
set_option linter.unusedVariables false
set_option maxRecDepth 100000

theorem exec_eql {P : Program} {t ty : TypeId} {x y : Operand} {o : Oper} {a : Act} {w : World} {va vb : Value} {b : Bool} (ho : o.op = .binOp .eql t x y ty) (hx : a.eval x = va) (hy : a.eval y = vb) (hg : (eqGuard .eql t x y va vb).run P w = .ok () w)
    (hr : (binOp .eql t va vb).run P w = .ok (.bool b) w) : (execOp a.eval o).run P w = .ok (.value (.bool b)) w := by
  unfold execOp
  rw [ho]
  simp only [hx, hy, Sem.run_bind, hg, hr, Result.andThen_ok, Sem.run_pure]
theorem eqgH (x y : Operand) (a b : Nat) (w : World) : (eqGuard .eql 24 x y (hv a) (hv b)).run Tryd.prog w = .ok () w := run_eqGuard_agg _ _ _ _ _ _ _ (by kernel_rfl)
set_option maxHeartbeats 1600000 in
/-- the filter of nothing is written -/
theorem awake_true (w : World) : Calls Tryd.prog 8 #[] w fun e w' => e = .returned (.bool true) ∧ Below w.heap.size w w' := by
  have PB := Lib.hid (build_nil 0 w)
  have hz : hv 0 = .agg hz32 := by unfold hv; rw [hcs_zero]; rfl
  go_enter Tryd.func8, Tryd.ntmps8
  rw [hz] at PB
  go_wp2_with fail
  refine PB.out.mono ?_
  rintro e w1 ⟨p, c, o, rfl, R, ho, hb⟩
  obtain ⟨_, _, e1, hy, _⟩ := R.form
  cases e1
  have bn := Blk.new w1 #[.int .u8 0] 5
  have PE := Lib.hid (Tryd.bytes_Equal_all p (some ⟨w1.heap.size, 0, none⟩) 1 c 1 1 [0] [0] (w1.alloc (.cells #[.int .u8 0] 5)) rfl rfl (bytes_keep hy ((Keep.refl (fun _ => False) w1).alloc _) (fun _ _ _ h => h)) (Lib.BytesIn.of_cells (xs := [0]) fun i hi => by
    obtain rfl : i = 0 := by simpa using hi
    rw [Addr.add_lit, bn.cell]; rfl))
  have HB := Lib.hid hb
  clear R ho hb hy bn hz
  go_wp2_with fail
  refine PE.out.mono ?_
  rintro e w2 ⟨rfl, hw⟩
  obtain rfl : w1.alloc (.cells #[.int .u8 0] 5) = w2 := hw.symm
  rw [beq_self_eq_true]
  go_wp2
  go_ret
  exact ⟨rfl, HB.out.alloc HB.out.size _⟩
set_option maxHeartbeats 3200000 in
theorem sums_walk (a0 : Option Addr) (c0 : Nat) (ys : List Int) (a b : Nat) (w : World) (G : Glob w) (hy : Lib.BytesIn w a0 ys.length ys) (hn : ys.length ≤ 140737488351232) (hc : ys.length ≤ c0) (hr : ∀ y ∈ ys, 0 ≤ y ∧ y ≤ 255) (ha : a < W256) (hb : b < W256) :
    Calls Tryd.prog 3 #[.slice a0 ys.length c0, hv a, hv b] w fun e w' => e = .returned (.bool true) ∧ Below w.heap.size w w' := by
  have L := two_blocks w (hcs a) (hcs b) 24 24
  have hs2 : ((w.alloc (.cells (hcs a) 24)).alloc (.cells (hcs b) 24)).heap.size = w.heap.size + 2 := by simp
  have HL := Lib.hid (And.intro L hs2)
  have P1 := fun w' (hS : Below w.heap.size w w') => psum ys a0 c0 w' (G.below hS) (bytes_keep hy (Keep.of_below (X := fun _ => False) hS) (fun _ _ _ h => h)) hr hc (by omega)
  have P2 := fun w' (hS : Below w.heap.size w w') => rsum ys a0 c0 w' (bytes_keep hy (Keep.of_below (X := fun _ => False) hS) (fun _ _ _ h => h)) hr (by omega)
  have HE := heql (dblN ys) (dblN ys) (shaN_lt _) (shaN_lt _)
  have HF := heql (dblN (hbytes a ++ hbytes b)) (dblN (hbytes a ++ hbytes b)) (shaN_lt _) (shaN_lt _)
  rw [beq_self_eq_true] at HE HF
  obtain ⟨E1, hE1⟩ : ∃ E1, E1 = dblN ys := ⟨_, rfl⟩
  have HE' : ∀ w : World, (binOp .eql 24 (hv (dblN ys)) (hv E1)).run Tryd.prog w = .ok (.bool true) w := by rw [hE1]; exact HE
  obtain ⟨E2, hE2⟩ : ∃ E2, E2 = dblN (hbytes a ++ hbytes b) := ⟨_, rfl⟩
  have HF' : ∀ w : World, (binOp .eql 24 (hv (dblN (hbytes a ++ hbytes b))) (hv E2)).run Tryd.prog w = .ok (.bool true) w := by rw [hE2]; exact HF
  rw [← hE1] at P2
  have HP := Lib.hid (And.intro P1 (And.intro P2 G))
  have HE2 := Lib.hid hE2
  clear HE HF hE1 hE2
  clear L hs2 P1 P2 G hy hr
  go_enter Tryd.func3, Tryd.ntmps3
  go_upto_region 1 with fail
  generalize (w.alloc (.cells (hcs a) 24)).alloc (.cells (hcs b) 24) = W at *
  generalize hgw : w.heap.size = g at *
  have U : ∀ w', Below W.heap.size W w' → Below g w w' := fun w' hS => HL.out.1.2.2.trans (hS.mono (by rw [HL.out.2]; omega))
  have HU := Lib.hid U
  generalize dblN ys = D1 at *
  generalize hD2 : dblN (hbytes a ++ hbytes b) = D2 at *
  have HD2 := Lib.hid hD2
  have LA : ∀ w', Below W.heap.size W w' → w'.rangeAt g 0 (hls a) := fun w' hS => blk_range (HL.out.1.1.beyond hS)
  have LB : ∀ w', Below W.heap.size W w' → w'.rangeAt (g + 1) 0 (hls b) := fun w' hS => blk_range (HL.out.1.2.1.beyond hS)
  have HLA := Lib.hid LA
  have HLB := Lib.hid LB
  have P3 : Hid (∀ w', Below W.heap.size W w' → Calls Tryd.prog 6 #[hv a, hv b] w' fun e w'' => e = .returned (hv D2) ∧ Below w'.heap.size w' w'') := fun w' hS => by
    have := pchain a b w' (by have := HP.out.2.2.below (by rw [hgw]; exact HU.out _ hS); exact this)
    rw [HD2.out] at this; exact this
  have P4 : Hid (∀ w', Calls Tryd.prog 7 #[hv a, hv b] w' fun e w'' => e = .returned (hv E2) ∧ Below w'.heap.size w' w'') := fun w' => by
    have := rchain a b w'
    rw [HD2.out, ← HE2.out] at this; exact this
  clear U LA LB hD2
  refine wp_region_held_drew (S := fun w' => Below W.heap.size W w') (by kernel_rfl) ((Below.refl _ _).drew) (fun hS => ?_)
  refine wpAnyH_take (i := 0) (oi := ⟨_, _, _, _, _, _⟩) (v := ?_) rfl (by kernel_rfl) (by kernel_rfl) (by kernel_rfl) (fun _ _ _ h => h) (Or.inl ⟨by rfl, ?_⟩) hS ?_
  rotate_left
  · intro w0 hs; clear hs; go_simp; try (with_reducible rfl)
  try simp only [Act.put, List.setIfInBounds_toArray, List.set_cons_zero, List.set_cons_succ]
  refine wpAnyH_take (i := 2) (oi := ⟨_, _, _, _, _, _⟩) (v := ?_) rfl (by kernel_rfl) (by kernel_rfl) (by kernel_rfl) (fun _ _ _ h => h) (Or.inl ⟨by rfl, ?_⟩) hS ?_
  rotate_left
  · intro w0 hs; clear hs; go_simp; try (with_reducible rfl)
  try simp only [Act.put, List.setIfInBounds_toArray, List.set_cons_zero, List.set_cons_succ]
  refine wpAnyH_ready (rs := [1]) (by kernel_rfl) (by simp) ?_
  refine AllReadyH.cons (o := ⟨_, _, _, _, _, _⟩) rfl (fun K hK => ?_) AllReadyH.nil
  rw [if_pos (by rfl)]
  go_step
  refine (HP.out.1 _ (HU.out _ hS)).mono ?_
  rintro e v1 ⟨rfl, hv1⟩
  simp only []
  refine hK.out _ _ (hS.trans (hv1.mono hS.size)) (fun hS' => ?_)
  clear hS hK
  have hS := hS'; clear hS'
  try simp only [Act.put, List.setIfInBounds_toArray, List.set_cons_zero, List.set_cons_succ]
  refine wpAnyH_ready (rs := [3]) (by kernel_rfl) (by simp) ?_
  refine AllReadyH.cons (o := ⟨_, _, _, _, _, _⟩) rfl (fun K hK => ?_) AllReadyH.nil
  rw [if_pos (by rfl)]
  go_step
  refine (HP.out.2.1 _ (HU.out _ hS)).mono ?_
  rintro e v2 ⟨rfl, hv2⟩
  simp only []
  refine hK.out _ _ (hS.trans (hv2.mono hS.size)) (fun hS' => ?_)
  clear hS hK
  have hS := hS'; clear hS'
  try simp only [Act.put, List.setIfInBounds_toArray, List.set_cons_zero, List.set_cons_succ]
  refine wpAnyH_take (i := 4) (oi := ⟨_, _, _, _, _, _⟩) (v := .bool true) rfl (by kernel_rfl) (by kernel_rfl) (by kernel_rfl) (fun _ _ _ h => h) (Or.inl ⟨by rfl, fun w0 _ => exec_eql (va := hv D1) (vb := hv E1) rfl rfl rfl (eqgH _ _ _ _ w0) (HE' w0)⟩) hS ?_
  try simp only [Act.put, List.setIfInBounds_toArray, List.set_cons_zero, List.set_cons_succ]
  as_aux_lemma =>
    refine wpAnyH_take (i := 5) (oi := ⟨_, _, _, _, _, _⟩) (v := ?_) rfl (by kernel_rfl) (by kernel_rfl) (by kernel_rfl) (fun _ _ _ h => h) (Or.inl ⟨by rfl, ?_⟩) hS ?_
    rotate_left
    · intro w0 hs; clear hs; go_simp; try (with_reducible rfl)
    try simp only [Act.put, List.setIfInBounds_toArray, List.set_cons_zero, List.set_cons_succ]
    refine wpAnyH_take (i := 6) (oi := ⟨_, _, _, _, _, _⟩) (v := hv a) rfl (by kernel_rfl) (by kernel_rfl) (by kernel_rfl) (fun _ _ _ h => h) (yld_hash (by rfl) (.tmp 4) rfl g 0 rfl a (fun w0 hs => HLA.out w0 hs)) hS ?_
    try simp only [Act.put, List.setIfInBounds_toArray, List.set_cons_zero, List.set_cons_succ]
    refine wpAnyH_take (i := 7) (oi := ⟨_, _, _, _, _, _⟩) (v := hv b) rfl (by kernel_rfl) (by kernel_rfl) (by kernel_rfl) (fun _ _ _ h => h) (yld_hash (by rfl) (.tmp 5) rfl (g + 1) 0 rfl b (fun w0 hs => HLB.out w0 hs)) hS ?_
    try simp only [Act.put, List.setIfInBounds_toArray, List.set_cons_zero, List.set_cons_succ]
    refine wpAnyH_take (i := 9) (oi := ⟨_, _, _, _, _, _⟩) (v := hv a) rfl (by kernel_rfl) (by kernel_rfl) (by kernel_rfl) (fun _ _ _ h => h) (yld_hash (by rfl) (.tmp 4) rfl g 0 rfl a (fun w0 hs => HLA.out w0 hs)) hS ?_
    try simp only [Act.put, List.setIfInBounds_toArray, List.set_cons_zero, List.set_cons_succ]
    refine wpAnyH_take (i := 10) (oi := ⟨_, _, _, _, _, _⟩) (v := hv b) rfl (by kernel_rfl) (by kernel_rfl) (by kernel_rfl) (fun _ _ _ h => h) (yld_hash (by rfl) (.tmp 5) rfl (g + 1) 0 rfl b (fun w0 hs => HLB.out w0 hs)) hS ?_
    try simp only [Act.put, List.setIfInBounds_toArray, List.set_cons_zero, List.set_cons_succ]
    as_aux_lemma =>
      refine wpAnyH_ready (rs := [8]) (by kernel_rfl) (by simp) ?_
      refine AllReadyH.cons (o := ⟨_, _, _, _, _, _⟩) rfl (fun K hK => ?_) AllReadyH.nil
      rw [if_pos (by rfl)]
      go_step
      refine (P3.out _ hS).mono ?_
      rintro e v3 ⟨rfl, hv3⟩
      simp only []
      refine hK.out _ _ (hS.trans (hv3.mono hS.size)) (fun hS' => ?_)
      clear hS hK
      have hS := hS'; clear hS'
      try simp only [Act.put, List.setIfInBounds_toArray, List.set_cons_zero, List.set_cons_succ]
      refine wpAnyH_ready (rs := [11]) (by kernel_rfl) (by simp) ?_
      refine AllReadyH.cons (o := ⟨_, _, _, _, _, _⟩) rfl (fun K hK => ?_) AllReadyH.nil
      rw [if_pos (by rfl)]
      go_step
      refine (P4.out _).mono ?_
      rintro e v4 ⟨rfl, hv4⟩
      simp only []
      refine hK.out _ _ (hS.trans (hv4.mono hS.size)) (fun hS' => ?_)
      clear hS hK
      have hS := hS'; clear hS'
      try simp only [Act.put, List.setIfInBounds_toArray, List.set_cons_zero, List.set_cons_succ]
      refine wpAnyH_take (i := 12) (oi := ⟨_, _, _, _, _, _⟩) (v := .bool true) rfl (by kernel_rfl) (by kernel_rfl) (by kernel_rfl) (fun _ _ _ h => h) (Or.inl ⟨by rfl, fun w0 _ => exec_eql (va := hv D2) (vb := hv E2) rfl rfl rfl (eqgH _ _ _ _ w0) (HF' w0)⟩) hS ?_
      try simp only [Act.put, List.setIfInBounds_toArray, List.set_cons_zero, List.set_cons_succ]
      refine wpAnyH_take (i := 13) (oi := ⟨_, _, _, _, _, _⟩) (v := ?_) rfl (by kernel_rfl) (by kernel_rfl) (by kernel_rfl) (fun _ _ _ h => h) (Or.inl ⟨by rfl, ?_⟩) hS ?_
      rotate_left
      · intro w0 hs; clear hs; go_simp; try (with_reducible rfl)
      try simp only [Act.put, List.setIfInBounds_toArray, List.set_cons_zero, List.set_cons_succ]
      refine wpAnyH_take (i := 14) (oi := ⟨_, _, _, _, _, _⟩) (v := ?_) rfl (by kernel_rfl) (by kernel_rfl) (by kernel_rfl) (fun _ _ _ h => h) (Or.inl ⟨by rfl, ?_⟩) hS ?_
      rotate_left
      · intro w0 hs; clear hs; go_simp; try (with_reducible rfl)
      try simp only [Act.put, List.setIfInBounds_toArray, List.set_cons_zero, List.set_cons_succ]
      as_aux_lemma =>
        refine wpAnyH_ready (rs := [15]) (by kernel_rfl) (by simp) ?_
        refine AllReadyH.cons (o := ⟨_, _, _, _, _, _⟩) rfl (fun K hK => ?_) AllReadyH.nil
        rw [if_pos (by rfl)]
        go_step
        refine (awake_true _).mono ?_
        rintro e v5 ⟨rfl, hv5⟩
        simp only []
        refine hK.out _ _ (hS.trans (hv5.mono hS.size)) (fun hS' => ?_)
        clear hS hK
        have hS := hS'; clear hS'
        try simp only [Act.put, List.setIfInBounds_toArray, List.set_cons_zero, List.set_cons_succ]
        refine wpAnyH_take (i := 16) (oi := ⟨_, _, _, _, _, _⟩) (v := ?_) rfl (by kernel_rfl) (by kernel_rfl) (by kernel_rfl) (fun _ _ _ h => h) (Or.inl ⟨by rfl, ?_⟩) hS ?_
        rotate_left
        · intro w0 hs; clear hs; go_simp; try (with_reducible rfl)
        try simp only [Act.put, List.setIfInBounds_toArray, List.set_cons_zero, List.set_cons_succ]
        refine wpAnyH_take (i := 17) (oi := ⟨_, _, _, _, _, _⟩) (v := ?_) rfl (by kernel_rfl) (by kernel_rfl) (by kernel_rfl) (fun _ _ _ h => h) (Or.inl ⟨by rfl, ?_⟩) hS ?_
        rotate_left
        · intro w0 hs; clear hs; go_simp; try (with_reducible rfl)
        try simp only [Act.put, List.setIfInBounds_toArray, List.set_cons_zero, List.set_cons_succ]
        refine wpAnyH_done (by kernel_rfl) ?_ _
        go_wp2
        go_ret
        exact ⟨rfl, by rw [hgw]; exact HU.out _ hS⟩
end Go.Proofs.YtppcccocnmhbgaaDoor
