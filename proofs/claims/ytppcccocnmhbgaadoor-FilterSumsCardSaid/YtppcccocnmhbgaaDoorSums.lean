/- A filter's hash and header: both sides. -/
import Derived.Test.YtppcccocnmhbgaaDoorShaRef7
import Derived.Test.YtppcccocnmhbgaaDoorConcat
import Derived.Test.YtppcccocnmhbgaaDoorBuild1
namespace Go.Proofs.YtppcccocnmhbgaaDoor
open Go Go.RowKit
set_option linter.unusedSimpArgs false
set_option linter.unusedVariables false
set_option maxRecDepth 100000

theorem wp_appendO {P : Program} {w w' : World} {o : Oper} {a : Act} {K : Act → World → Prop} {Q : Exit → Act → World → Prop} (s x : Operand) (t : TypeId)
    (ho : o.op = .call { callee := .builtin .append, args := #[s, x], argTypes := #[t, t] }) {v1 v2 v' : Value} (hs : a.eval s = v1) (hx : a.eval x = v2)
    (hrun : (Builtin.append_ #[t, t] o.type #[v1, v2]).run P w = .ok v' w') (h : K (a.put o.dst v') w') : o.wp P a w K Q := by
  unfold Oper.wp
  simp [execOp, ho, resolve, invoke, builtin, hs, hx, hrun, Result.andThen]
  exact h
theorem hls_u8s (n : Nat) : hls n = u8s (hbytes n) := by simp [hls, hbytes, u8s]
theorem hbytes2_length (a b : Nat) : (hbytes a ++ hbytes b).length = 64 := by rw [List.length_append, hbytes_length, hbytes_length]
theorem hbytes2_range (a b : Nat) : ∀ y ∈ hbytes a ++ hbytes b, 0 ≤ y ∧ y ≤ 255 := by
  intro y hy
  rcases List.mem_append.1 hy with h | h
  · exact hbytes_range a y h
  · exact hbytes_range b y h
set_option maxHeartbeats 1600000 in
theorem psum (ys : List Int) (q : Option Addr) (c : Nat) (w : World) (G : Glob w) (hy : Lib.BytesIn w q ys.length ys) (hr : ∀ y ∈ ys, 0 ≤ y ∧ y ≤ 255) (hc : ys.length ≤ c) (hn : ys.length < 1152921504606846976) :
    Calls Tryd.prog 4 #[.slice q ys.length c] w fun e w' => e = .returned (hv (dblN ys)) ∧ Below w.heap.size w w' := by
  have K0 := (Below.refl w.heap.size w).alloc (Nat.le_refl _) (.cells hz32 24)
  have BR := Lib.hid (And.intro (Blk.new w hz32 24) K0)
  have hs0 : (w.alloc (.cells hz32 24)).heap.size = w.heap.size + 1 := by simp
  have PS := Lib.hid (pdouble ys q c _ (G.below K0) (bytes_keep hy (Keep.of_below (X := fun _ => False) K0) (fun _ _ _ h => h)) hr hc hn)
  clear K0 hy hr G
  go_enter Tryd.func4, Tryd.ntmps4
  go_upto_region 1 with fail
  generalize w.alloc (.cells hz32 24) = w0 at *
  generalize hgw : w.heap.size = rb at *
  go_wp2_with fail
  refine PS.out.mono ?_
  rintro e w1 ⟨rfl, hb1⟩
  have br := BR.out.1.beyond hb1
  have K1 := Lib.hid hb1
  clear hb1
  go_wp2_with (refine wpl_store rfl 24 (.tmp 2) (.tmp 4) rfl rfl rfl br (by rw [hcs_size]; rfl) (by rw [hcs_size]; kernel_rfl) (hcs_one _) ?_)
  have bf := br.setAll (hcs (dblN ys)) (by rw [hcs_size]; rfl)
  have b0 := BR.out.2
  have b1 := b0.trans (K1.out.mono (by rw [← hgw]; exact b0.size))
  have b2 := below_setCells (B := rb) (g := rb) (Nat.le_refl _) (hcs (dblN ys)).toList 0 w1 b1
  exact bodyPost_ret (v := hv (dblN ys)) (results_blk Tryd.results4 _ _ rfl bf Tryd.underlying24 (by rw [hcs_size]; kernel_rfl)) rfl ⟨rfl, by rw [hgw]; exact b2⟩
set_option maxHeartbeats 1600000 in
theorem rsum (ys : List Int) (q : Option Addr) (c : Nat) (w : World) (hy : Lib.BytesIn w q ys.length ys) (hr : ∀ y ∈ ys, 0 ≤ y ∧ y ≤ 255) (hn : ys.length ≤ 140737488355200) :
    Calls Tryd.prog 5 #[.slice q ys.length c] w fun e w' => e = .returned (hv (dblN ys)) ∧ Below w.heap.size w w' := by
  have K0 := (Below.refl w.heap.size w).alloc (Nat.le_refl _) (.cells hz32 24)
  have BR := Lib.hid (And.intro (Blk.new w hz32 24) K0)
  have hs0 : (w.alloc (.cells hz32 24)).heap.size = w.heap.size + 1 := by simp
  have PS := Lib.hid (rdouble ys q c _ (bytes_keep hy (Keep.of_below (X := fun _ => False) K0) (fun _ _ _ h => h)) hr hn)
  clear K0 hy hr 
  go_enter Tryd.func5, Tryd.ntmps5
  go_upto_region 1 with fail
  generalize w.alloc (.cells hz32 24) = w0 at *
  generalize hgw : w.heap.size = rb at *
  go_wp2_with fail
  refine PS.out.mono ?_
  rintro e w1 ⟨rfl, hb1⟩
  have br := BR.out.1.beyond hb1
  have K1 := Lib.hid hb1
  clear hb1
  go_wp2_with (refine wpl_store rfl 24 (.tmp 2) (.tmp 4) rfl rfl rfl br (by rw [hcs_size]; rfl) (by rw [hcs_size]; kernel_rfl) (hcs_one _) ?_)
  have bf := br.setAll (hcs (dblN ys)) (by rw [hcs_size]; rfl)
  have b0 := BR.out.2
  have b1 := b0.trans (K1.out.mono (by rw [← hgw]; exact b0.size))
  have b2 := below_setCells (B := rb) (g := rb) (Nat.le_refl _) (hcs (dblN ys)).toList 0 w1 b1
  exact bodyPost_ret (v := hv (dblN ys)) (results_blk Tryd.results5 _ _ rfl bf Tryd.underlying24 (by rw [hcs_size]; kernel_rfl)) rfl ⟨rfl, by rw [hgw]; exact b2⟩
theorem three_blocks (w : World) (c1 c2 c3 : Array Value) (t1 t2 t3 : TypeId) : Blk (((w.alloc (.cells c1 t1)).alloc (.cells c2 t2)).alloc (.cells c3 t3)) w.heap.size c1 t1 ∧ Blk (((w.alloc (.cells c1 t1)).alloc (.cells c2 t2)).alloc (.cells c3 t3)) (w.heap.size + 1) c2 t2 ∧ Blk (((w.alloc (.cells c1 t1)).alloc (.cells c2 t2)).alloc (.cells c3 t3)) (w.heap.size + 2) c3 t3 ∧ Below w.heap.size w (((w.alloc (.cells c1 t1)).alloc (.cells c2 t2)).alloc (.cells c3 t3)) := by
  obtain ⟨b1, b2, k⟩ := two_blocks w c1 c2 t1 t2
  have hs : ((w.alloc (.cells c1 t1)).alloc (.cells c2 t2)).heap.size = w.heap.size + 2 := by simp
  have k3 := (Below.refl ((w.alloc (.cells c1 t1)).alloc (.cells c2 t2)).heap.size ((w.alloc (.cells c1 t1)).alloc (.cells c2 t2))).alloc (Nat.le_refl _) (.cells c3 t3)
  refine ⟨b1.beyond k3, b2.beyond k3, ?_, k.alloc (by omega) _⟩
  have := Blk.new ((w.alloc (.cells c1 t1)).alloc (.cells c2 t2)) c3 t3
  rw [hs] at this; exact this
set_option maxHeartbeats 3200000 in
theorem pchain (a b : Nat) (w : World) (G : Glob w) :
    Calls Tryd.prog 6 #[hv a, hv b] w fun e w' => e = .returned (hv (dblN (hbytes a ++ hbytes b))) ∧ Below w.heap.size w w' := by
  have L := three_blocks w (hcs a) (hcs b) hz32 24 24 24
  have hs3 : (((w.alloc (.cells (hcs a) 24)).alloc (.cells (hcs b) 24)).alloc (.cells hz32 24)).heap.size = w.heap.size + 3 := by simp
  have G3 := G.below L.2.2.2
  have HL := Lib.hid (And.intro L (And.intro hs3 G3))
  clear L hs3 G3 G
  go_enter Tryd.func6, Tryd.ntmps6
  go_upto_region 1 with fail
  generalize ((w.alloc (.cells (hcs a) 24)).alloc (.cells (hcs b) 24)).alloc (.cells hz32 24) = W at *
  generalize hgw : w.heap.size = hb at *
  have k1 : Below W.heap.size W (W.alloc (.cells #[.slice (some ⟨hb, 0, none⟩) 32 32, .slice (some ⟨hb + 1, 0, none⟩) 32 32] 22)).drew := ((Below.refl _ W).alloc (Nat.le_refl _) _).drew
  have bn : Blk (W.alloc (.cells #[.slice (some ⟨hb, 0, none⟩) 32 32, .slice (some ⟨hb + 1, 0, none⟩) 32 32] 22)).drew W.heap.size #[.slice (some ⟨hb, 0, none⟩) 32 32, .slice (some ⟨hb + 1, 0, none⟩) 32 32] 22 := (Blk.new W _ _).drew
  have C : CatIn (W.alloc (.cells #[.slice (some ⟨hb, 0, none⟩) 32 32, .slice (some ⟨hb + 1, 0, none⟩) 32 32] 22)).drew (some ⟨W.heap.size, 0, none⟩) 2 (fun i => some ⟨hb + i, 0, none⟩) (fun _ => 32) (fun _ => 32) (fun i => if i = 0 then hls a else hls b) := fun i hi => by
    refine ⟨W.heap.size, 0, rfl, ?_, ?_, ?_, fun _ => ⟨hb + i, 0, rfl, ?_⟩⟩
    · rw [Nat.zero_add, bn.cell]
      rcases (by omega : i = 0 ∨ i = 1) with rfl | rfl <;> rfl
    · rcases (by omega : i = 0 ∨ i = 1) with rfl | rfl
      · exact hls_length a
      · exact hls_length b
    · have h1 : ∀ n, ∀ u ∈ hls n, u.oneCell' = true := fun n u hu => by rw [hls_u8s] at hu; exact u8s_one _ u hu
      intro u hu
      rcases (by omega : i = 0 ∨ i = 1) with rfl | rfl
      · exact h1 a u hu
      · exact h1 b u hu
    · intro j u hu
      rw [Nat.zero_add]
      rcases (by omega : i = 0 ∨ i = 1) with rfl | rfl
      · exact ((HL.out.1.1.beyond k1).cell j).trans (by simpa [hcs] using hu)
      · rw [(HL.out.1.2.1.beyond k1).cell]; simpa [hcs] using hu
  have PC := Lib.hid (concat_B _ 2 2 _ _ _ _ _ C (by decide) (by show lenL (fun _ => 32) 2 * 1 ≤ _; decide))
  have HK1 := Lib.hid k1
  have PD := Lib.hid (fun (w' : World) (v : Value) (o : Option Nat) (hS : Below W.heap.size W w') (R : RowV w' 5 1 v (lenL (fun _ => 32) 2) (catL (fun i => if i = 0 then hls a else hls b) 2) o) => show ∃ p c, v = .slice p 64 c ∧ Calls Tryd.prog 9 #[.slice p 64 c] w' fun e w'' => e = .returned (hv (dblN (hbytes a ++ hbytes b))) ∧ Below w'.heap.size w' w'' from by
    have e1 : catL (fun i => if i = 0 then hls a else hls b) 2 = u8s (hbytes a ++ hbytes b) := by
      rw [u8s_append, ← hls_u8s, ← hls_u8s]; rfl
    rw [e1] at R
    have R2 : Row w' 5 v (hbytes a ++ hbytes b) o := R.toRow
    obtain ⟨p, c, rfl, hy, hle, hc, hq⟩ := R2.form
    rw [hbytes2_length] at hle
    have PP := pdouble (hbytes a ++ hbytes b) p c w' (HL.out.2.2.below hS) hy (hbytes2_range a b) (by rw [hbytes2_length]; exact hle) (by rw [hbytes2_length]; decide)
    rw [hbytes2_length] at PP
    exact ⟨p, c, by rw [hbytes2_length], PP⟩)
  clear k1 bn C
  refine wp_region_last 5 (fun w' => Below W.heap.size W w') (by kernel_rfl) ((Below.refl _ _).drew) (fun hS => ?_)
  refine wpAnyL_take (i := 0) (oi := ⟨_, _, _, _, _, _⟩) (v := ?_) rfl (by kernel_rfl) (by kernel_rfl) (by kernel_rfl) (by kernel_rfl) (fun _ _ _ h => h) (Or.inl ⟨by rfl, ?_⟩) hS ?_
  rotate_left
  · intro w0 hs; clear hs; go_simp; try (with_reducible rfl)
  try simp only [Act.put, List.setIfInBounds_toArray, List.set_cons_zero, List.set_cons_succ]
  refine wpAnyL_take (i := 1) (oi := ⟨_, _, _, _, _, _⟩) (v := ?_) rfl (by kernel_rfl) (by kernel_rfl) (by kernel_rfl) (by kernel_rfl) (fun _ _ _ h => h) (Or.inl ⟨by rfl, ?_⟩) hS ?_
  rotate_left
  · intro w0 hs; clear hs; go_simp; try (with_reducible rfl)
  try simp only [Act.put, List.setIfInBounds_toArray, List.set_cons_zero, List.set_cons_succ]
  refine wpAnyL_one (i := 2) (oi := ⟨_, _, _, _, _, _⟩) rfl (by kernel_rfl) (fun K hK => ?_)
  rw [if_pos (by rfl)]
  go_simp
  have hS' := HK1.out
  refine hK.out _ _ (.inr hS') ?_
  clear hS hK
  have hS := hS'; clear hS'
  try simp only [Act.put, List.setIfInBounds_toArray, List.set_cons_zero, List.set_cons_succ]
  refine wpAnyL_one (i := 3) (oi := ⟨_, _, _, _, _, _⟩) rfl (by kernel_rfl) (fun K hK => ?_)
  rw [if_pos (by rfl)]
  go_step
  refine PC.out.mono ?_
  rintro e v2 ⟨v3, o3, rfl, R3, ho3, hv2⟩
  simp only []
  have hS' := (HK1.out.trans (hv2.mono HK1.out.size))
  refine hK.out _ _ (.inr hS') ?_
  clear hS hK
  have hS := hS'; clear hS'
  try simp only [Act.put, List.setIfInBounds_toArray, List.set_cons_zero, List.set_cons_succ]
  refine wpAnyL_one (i := 4) (oi := ⟨_, _, _, _, _, _⟩) rfl (by kernel_rfl) (fun K hK => ?_)
  rw [if_pos (by rfl)]
  go_step
  obtain ⟨p4, c4, rfl, PP⟩ := PD.out _ _ _ hS R3
  refine PP.mono ?_
  rintro e v3 ⟨rfl, hv3⟩
  simp only []
  have hS' := (hS.trans (hv3.mono hS.size))
  refine hK.out _ _ (.inr hS') ?_
  clear hS hK
  have hS := hS'; clear hS'
  try simp only [Act.put, List.setIfInBounds_toArray, List.set_cons_zero, List.set_cons_succ]
  refine wpAnyL_one (i := 5) (oi := ⟨_, _, _, _, _, _⟩) rfl (by kernel_rfl) (fun K hK => ?_)
  rw [if_pos (by rfl)]
  have BL := HL.out.1.2.2.1.beyond hS
  refine wp_store_mid 24 (.tmp 4) (.tmp 9) rfl (hb + 2) 0 (hcs (dblN (hbytes a ++ hbytes b))) rfl rfl (by have := BL.there; rw [hcs_size]; exact this) (by rw [hcs_size]; kernel_rfl) (hcs_one _) ?_
  refine hK.out _ _ (.inl rfl) ?_
  clear hK
  try simp only [Act.put, List.setIfInBounds_toArray, List.set_cons_zero, List.set_cons_succ]
  refine wpAnyL_done (by kernel_rfl) ?_ _
  have HE := Lib.hid (And.intro hS BL)
  clear hS BL
  go_wp2
  have bf := HE.out.2.setAll (hcs (dblN (hbytes a ++ hbytes b))) (by rw [hcs_size]; rfl)
  have b1 := HL.out.1.2.2.2.trans (HE.out.1.mono (by rw [HL.out.2.1]; omega))
  have b2 := below_setCells (B := hb) (g := hb + 2) (by omega) (hcs (dblN (hbytes a ++ hbytes b))).toList 0 _ b1
  exact bodyPost_ret (v := hv (dblN (hbytes a ++ hbytes b))) (results_blk Tryd.results6 _ _ rfl bf Tryd.underlying24 (by rw [hcs_size]; kernel_rfl)) rfl ⟨rfl, by rw [hgw]; exact b2⟩
set_option maxHeartbeats 3200000 in
theorem rchain (a b : Nat) (w : World) :
    Calls Tryd.prog 7 #[hv a, hv b] w fun e w' => e = .returned (hv (dblN (hbytes a ++ hbytes b))) ∧ Below w.heap.size w w' := by
  obtain ⟨i0, hi, hz0, hz1, hz2⟩ := info_parts u8info
  have L := three_blocks w (hcs a) (hcs b) hz32 24 24 24
  have hs3 : (((w.alloc (.cells (hcs a) 24)).alloc (.cells (hcs b) 24)).alloc (.cells hz32 24)).heap.size = w.heap.size + 3 := by simp
  have HL := Lib.hid (And.intro L hs3)
  clear L hs3
  go_enter Tryd.func7, Tryd.ntmps7
  go_upto_region 1 with fail
  generalize ((w.alloc (.cells (hcs a) 24)).alloc (.cells (hcs b) 24)).alloc (.cells hz32 24) = W at *
  generalize hgw : w.heap.size = hb at *
  have K1 : Keep (fun _ => False) W (W.alloc (.cells #[] 5)).drew := ((Keep.refl _ W).alloc _).drew
  have R0 : Row (W.alloc (.cells #[] 5)).drew 5 (.slice (some ⟨W.heap.size, 0, none⟩) 0 0) [] (some W.heap.size) := (Row.fresh W 5).keep (X := fun _ => False) ((Keep.refl _ _).drew) (fun _ _ h => h)
  have yA := bytes_keep (hbytes_in HL.out.1.1) K1 (fun _ _ _ h => h)
  obtain ⟨v1, w1, o1, run1, R1, ho1, k1⟩ := row_appendL (P := Tryd.prog) 22 22 i0 (.int .u8 0) Tryd.underlying22 hi hz0 hz1 hz2 rfl R0 (c := 32) yA (by rw [hbytes_length]; decide)
  rw [List.nil_append] at R1
  obtain ⟨g1, b1⟩ := own_step (w0 := W) (G := W.heap.size) rfl (K1.below (Nat.le_refl _) (fun _ h => h.elim)) (fun g hg => by cases hg; exact Nat.le_refl _) ho1 k1
  have yB := hbytes_in (HL.out.1.2.1.beyond b1)
  obtain ⟨v2, w2, o2, run2, R2, ho2, k2⟩ := row_appendL (P := Tryd.prog) 22 22 i0 (.int .u8 0) Tryd.underlying22 hi hz0 hz1 hz2 rfl R1 (c := 32) yB (by rw [hbytes_length, hbytes_length]; decide)
  obtain ⟨g2, b2⟩ := own_step (w0 := W) (G := W.heap.size) rfl b1 g1 ho2 k2
  obtain ⟨p1, c1, rfl, _⟩ := R1.form
  obtain ⟨p2, c2, rfl, hy2, _⟩ := R2.form
  have PD := rdouble (hbytes a ++ hbytes b) p2 c2 w2 hy2 (hbytes2_range a b) (by rw [hbytes2_length]; decide)
  rw [hbytes2_length] at PD
  rw [hbytes_length] at run1
  rw [hbytes_length, hbytes_length, hbytes2_length] at run2
  have HK1 := Lib.hid (K1.below (Nat.le_refl _) (fun _ h => h.elim))
  have HB1 := Lib.hid b1
  have HB2 := Lib.hid b2
  have HD := Lib.hid PD
  clear R0 R1 R2 yA yB ho1 ho2 k1 k2 g1 g2 b1 b2 K1 PD hy2
  refine wp_region_last 6 (fun w' => Below W.heap.size W w') (by kernel_rfl) ((Below.refl _ _).drew) (fun hS => ?_)
  refine wpAnyL_take (i := 1) (oi := ⟨_, _, _, _, _, _⟩) (v := ?_) rfl (by kernel_rfl) (by kernel_rfl) (by kernel_rfl) (by kernel_rfl) (fun _ _ _ h => h) (Or.inl ⟨by rfl, ?_⟩) hS ?_
  rotate_left
  · intro w0 hs; clear hs; go_simp; try (with_reducible rfl)
  try simp only [Act.put, List.setIfInBounds_toArray, List.set_cons_zero, List.set_cons_succ]
  refine wpAnyL_take (i := 3) (oi := ⟨_, _, _, _, _, _⟩) (v := ?_) rfl (by kernel_rfl) (by kernel_rfl) (by kernel_rfl) (by kernel_rfl) (fun _ _ _ h => h) (Or.inl ⟨by rfl, ?_⟩) hS ?_
  rotate_left
  · intro w0 hs; clear hs; go_simp; try (with_reducible rfl)
  try simp only [Act.put, List.setIfInBounds_toArray, List.set_cons_zero, List.set_cons_succ]
  refine wpAnyL_one (i := 0) (oi := ⟨_, _, _, _, _, _⟩) rfl (by kernel_rfl) (fun K hK => ?_)
  rw [if_pos (by rfl)]
  go_simp
  have hS' := HK1.out
  refine hK.out _ _ (.inr hS') ?_
  clear hS hK
  have hS := hS'; clear hS'
  try simp only [Act.put, List.setIfInBounds_toArray, List.set_cons_zero, List.set_cons_succ]
  refine wpAnyL_one (i := 2) (oi := ⟨_, _, _, _, _, _⟩) rfl (by kernel_rfl) (fun K hK => ?_)
  rw [if_pos (by rfl)]
  refine wp_appendO (.tmp 5) (.tmp 6) 22 rfl rfl rfl run1 ?_
  have hS' := HB1.out
  refine hK.out _ _ (.inr hS') ?_
  clear hS hK
  have hS := hS'; clear hS'
  try simp only [Act.put, List.setIfInBounds_toArray, List.set_cons_zero, List.set_cons_succ]
  refine wpAnyL_one (i := 4) (oi := ⟨_, _, _, _, _, _⟩) rfl (by kernel_rfl) (fun K hK => ?_)
  rw [if_pos (by rfl)]
  refine wp_appendO (.tmp 7) (.tmp 8) 22 rfl rfl rfl run2 ?_
  have hS' := HB2.out
  refine hK.out _ _ (.inr hS') ?_
  clear hS hK
  have hS := hS'; clear hS'
  try simp only [Act.put, List.setIfInBounds_toArray, List.set_cons_zero, List.set_cons_succ]
  refine wpAnyL_one (i := 5) (oi := ⟨_, _, _, _, _, _⟩) rfl (by kernel_rfl) (fun K hK => ?_)
  rw [if_pos (by rfl)]
  go_step
  refine HD.out.mono ?_
  rintro e v3 ⟨rfl, hv3⟩
  simp only []
  have hS' := (hS.trans (hv3.mono hS.size))
  refine hK.out _ _ (.inr hS') ?_
  clear hS hK
  have hS := hS'; clear hS'
  try simp only [Act.put, List.setIfInBounds_toArray, List.set_cons_zero, List.set_cons_succ]
  refine wpAnyL_one (i := 6) (oi := ⟨_, _, _, _, _, _⟩) rfl (by kernel_rfl) (fun K hK => ?_)
  rw [if_pos (by rfl)]
  have BL := HL.out.1.2.2.1.beyond hS
  refine wp_store_mid 24 (.tmp 4) (.tmp 10) rfl (hb + 2) 0 (hcs (dblN (hbytes a ++ hbytes b))) rfl rfl (by have := BL.there; rw [hcs_size]; exact this) (by rw [hcs_size]; kernel_rfl) (hcs_one _) ?_
  refine hK.out _ _ (.inl rfl) ?_
  clear hK
  try simp only [Act.put, List.setIfInBounds_toArray, List.set_cons_zero, List.set_cons_succ]
  refine wpAnyL_done (by kernel_rfl) ?_ _
  have HE := Lib.hid (And.intro hS BL)
  clear hS BL
  go_wp2
  have bf := HE.out.2.setAll (hcs (dblN (hbytes a ++ hbytes b))) (by rw [hcs_size]; rfl)
  have b1 := HL.out.1.2.2.2.trans (HE.out.1.mono (by rw [HL.out.2]; omega))
  have b2 := below_setCells (B := hb) (g := hb + 2) (by omega) (hcs (dblN (hbytes a ++ hbytes b))).toList 0 _ b1
  exact bodyPost_ret (v := hv (dblN (hbytes a ++ hbytes b))) (results_blk Tryd.results7 _ _ rfl bf Tryd.underlying24 (by rw [hcs_size]; kernel_rfl)) rfl ⟨rfl, by rw [hgw]; exact b2⟩
end Go.Proofs.YtppcccocnmhbgaaDoor
