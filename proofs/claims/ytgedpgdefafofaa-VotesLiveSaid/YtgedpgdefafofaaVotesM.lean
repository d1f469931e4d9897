/- The law VotesLive, walked. -/
import Derived.Test.YtgedpgdefafofaaVotesK
namespace Go.Proofs.Ytgedpgdefafofaa
open Go Go.RowKit
set_option linter.unusedSimpArgs false

/-- only the normal end -/
def nrm (R : Act → World → Prop) : Exit → Act → World → Prop
  | .normal, a, w => R a w
  | _, _, _ => False
theorem nrm_mk {R : Act → World → Prop} {a : Act} {w : World} (h : R a w) : nrm R .normal a w := h
theorem nrm_out {R : Act → World → Prop} {a : Act} {w : World} : ∀ {x : Exit}, nrm R x a w → x = .normal ∧ R a w := by
  intro x h
  cases x <;> first | exact ⟨rfl, h⟩ | exact False.elim h
/-- a region's ways meet again -/
theorem region_rest {ι : Type} {P : Program} {c : Code} {a : Act} {w : World} {Q : Exit → Act → World → Prop} (Fc : ι → World → Prop) (F : ι → Act → Act)
    (h1 : c.wp P (nrm fun a' w' => ∃ i, Fc i w' ∧ a' = F i a) a w) (h2 : ∀ i w', Fc i w' → Q .normal (F i a) w') : c.wp P Q a w :=
  Code.wp_mono (fun e a' w' h => by
    obtain ⟨rfl, i, h3, rfl⟩ := nrm_out h
    exact h2 i w' h3) h1
theorem iequal (n : Nat) (v1 v2 : Value) (o1 o2 : Option Nat) (xs : List Int) (w : World) (h1 : RowV w 3 1 v1 n (i64s xs) o1) (h2 : RowV w 3 1 v2 n (i64s xs) o2) (hn : n ≤ 10000) :
    Calls Try.prog 16 #[v1, v2] w fun e w' => e = .returned (.bool true) ∧ Below w.heap.size w w' := by
  have hl : xs.length = n := by have := h1.1; rw [i64s_length] at this; omega
  by_cases h0 : 0 < n
  · obtain ⟨g1, c1, _, rfl, _, _, _, hc1, _⟩ := h1.mem h0
    obtain ⟨g2, c2, _, rfl, _, _, _, hc2, _⟩ := h2.mem h0
    refine (Try.slices_Equal_int g1 0 n c1 g2 0 n c2 xs xs w (by omega) (by omega) (by omega) (by omega) (fun j hj => ?_) (fun j hj => ?_)).mono ?_
    · rw [Nat.zero_add, hc1 j (by omega), i64s_get xs j hj]
    · rw [Nat.zero_add, hc2 j (by omega), i64s_get xs j hj]
    · rintro e w' ⟨rfl, q, rfl⟩
      exact ⟨by rw [beq_self_eq_true], (Below.refl _ _).trans ⟨rfl, rfl, rfl, Nat.le_refl _, fun _ _ => rfl⟩⟩
  · obtain rfl : n = 0 := by omega
    obtain ⟨p1, c1, rfl, _⟩ := h1.form
    obtain ⟨p2, c2, rfl, _⟩ := h2.form
    refine (Try.slices_Equal_int_empty p1 p2 c1 0 c2 w (by omega)).mono ?_
    rintro e w' ⟨rfl, rfl⟩
    exact ⟨rfl, Below.refl _ _⟩
abbrev P3 := Nat × Nat × Nat
/-- both, new -/
def Both0 (w : World) (i : P3) (w' : World) : Prop :=
  VAt w' i.1 [] i.2.1 none ∧ QAt w' i.2.2 [] none ∧ w.heap.size ≤ i.1 ∧ w.heap.size ≤ i.2.1 ∧ w.heap.size ≤ i.2.2 ∧ i.2.2 ≠ i.1 ∧ i.2.2 ≠ i.2.1 ∧ Below w.heap.size w w'
theorem both0_drew {w w' : World} {i : P3} (h : Both0 w.drew i w') : Both0 w i w' := by
  obtain ⟨h1, h2, h3, h4, h5, h6, h7, h8⟩ := h
  exact ⟨h1, h2, h3, h4, h5, h6, h7, ((Below.refl w.heap.size w).drew).trans h8⟩
def qzero (id : Nat) : Array Value := hcs id ++ #[.slice none 0 0]
theorem both0_1 {w w1 : World} {p bm : Nat} (id : Nat) (hv : VAt w1 p [] bm none) (hp : w.heap.size ≤ p) (hbm : w.heap.size ≤ bm) (hb : Below w.heap.size w w1) :
    Both0 w (p, bm, w1.heap.size) (w1.alloc (.cells (qzero id) 42)) := by
  have hlt := hv.lt
  have h1 : p < w1.heap.size := hlt p (.inl rfl)
  have h2 : bm < w1.heap.size := hlt bm (.inr (.inl rfl))
  refine ⟨hv.below ((Below.refl _ w1).alloc (Nat.le_refl _) _), ⟨id, _, Blk.new w1 _ _, RowV.nil _ _ _, fun h => by cases h⟩, hp, hbm, hb.size, ?_, ?_, hb.alloc hb.size _⟩
  · show w1.heap.size ≠ p; omega
  · show w1.heap.size ≠ bm; omega
theorem both0_2 {w w2 : World} {p bm : Nat} (id : Nat) (hv : VAt w2 p [] bm none) (hp : (w.alloc (.cells (qzero id) 42)).heap.size ≤ p) (hbm : (w.alloc (.cells (qzero id) 42)).heap.size ≤ bm)
    (hb : Below (w.alloc (.cells (qzero id) 42)).heap.size (w.alloc (.cells (qzero id) 42)) w2) : Both0 w (p, bm, w.heap.size) w2 := by
  have hs : (w.alloc (.cells (qzero id) 42)).heap.size = w.heap.size + 1 := by simp
  have h0 := (Below.refl w.heap.size w).alloc (Nat.le_refl _) (.cells (qzero id) 42)
  refine ⟨hv, QAt.below (w := w.alloc (.cells (qzero id) 42)) ⟨id, _, Blk.new w _ _, RowV.nil _ _ _, fun h => by cases h⟩ hb, ?_, ?_, Nat.le_refl _, ?_, ?_, h0.trans (hb.mono h0.size)⟩
  · show w.heap.size ≤ p; omega
  · show w.heap.size ≤ bm; omega
  · show w.heap.size ≠ p; omega
  · show w.heap.size ≠ bm; omega
set_option maxRecDepth 100000 in
theorem buildQ (id : Nat) (w : World) : (Instr.build 42 #[(0, hv id)]).run Try.prog w = .ok (.agg (qzero id)) w := run_build w 42 _ _ (by kernel_rfl)
/-- what a round of VotesLive finds -/
def Liv (wB wx : World) (p bm q k : Nat) : Prop :=
  ∃ L o o2, VAt wx p L bm o ∧ QAt wx q L o2 ∧ VL.ok L ∧ L.length ≤ k ∧ (∀ g, o = some g → wB.heap.size ≤ g ∧ g ≠ q ∧ o2 ≠ some g) ∧ (∀ g, o2 = some g → wB.heap.size ≤ g ∧ g ≠ p ∧ g ≠ bm) ∧ Below wB.heap.size wB wx
set_option maxRecDepth 4000 in
set_option maxHeartbeats 40000000 in
theorem live_walk (id : Nat) (a0 : Option Addr) (len cap : Nat) (D : Nat → VDo) (W : World) (hid : id < W256) (hD : DosIn W a0 len D) (hlen : len ≤ 9223372036854775807) :
    Calls Try.prog 4 #[hv id, .slice a0 len cap] W fun e w' => e = .returned (.bool true) ∧ Below W.heap.size W w' := by
  have HD := Lib.hid (hD.below ((Below.refl W.heap.size W).alloc (Nat.le_refl _) (.cells (hcs id) 26)))
  have BX := Lib.hid (Blk.new W (hcs id) 26)
  have K0 := Lib.hid ((Below.refl W.heap.size W).alloc (Nat.le_refl _) (.cells (hcs id) 26))
  have LDI := hashInfo
  have DI := doInfo
  clear hD
  go_enter Try.func4, Try.ntmps4
  go_upto_region 1 with fail
  generalize W.alloc (.cells (hcs id) 26) = wB at *
  generalize hgw : W.heap.size = G0 at *
  have hg0 := BX.out.lt
  refine region_rest (ι := P3) (Both0 wB) (fun i a => ((((((a.put (some 11) (hv id)).put (some 13) (hv id)).put (some 14) (.agg (qzero id))).put (some 12) (.pointer (some ⟨i.1, 0, none⟩))).put (some 15) (.pointer (some ⟨i.2.2, 0, none⟩))).put (some 5) (.pointer (some ⟨i.1, 0, none⟩))).put (some 6) (.pointer (some ⟨i.2.2, 0, none⟩))) ?_ ?_
  · skip
    refine wp_region_held_drew (S := fun w' => Below wB.heap.size wB w') (by kernel_rfl) ((Below.refl _ _).drew) (fun hS => ?_)
    refine wpAnyH_take (i := 0) (oi := ⟨_, _, _, _, _, _⟩) (v := hv id) rfl (by kernel_rfl) (by kernel_rfl) (by kernel_rfl) (fun _ _ _ h => h) (yieldsIf_load_mid (by rfl) 26 (.tmp 2) rfl G0 0 rfl (hls id) (.array 32 5) (fun _ hs j v hv => (hs.cell (p := ⟨G0, _, none⟩) hg0).trans (blk_range BX.out j v hv)) Try.underlying26 rfl LDI) hS ?_
    try simp only [Act.put, List.setIfInBounds_toArray, List.set_cons_zero, List.set_cons_succ]
    refine wpAnyH_take (i := 2) (oi := ⟨_, _, _, _, _, _⟩) (v := hv id) rfl (by kernel_rfl) (by kernel_rfl) (by kernel_rfl) (fun _ _ _ h => h) (yieldsIf_load_mid (by rfl) 26 (.tmp 2) rfl G0 0 rfl (hls id) (.array 32 5) (fun _ hs j v hv => (hs.cell (p := ⟨G0, _, none⟩) hg0).trans (blk_range BX.out j v hv)) Try.underlying26 rfl LDI) hS ?_
    try simp only [Act.put, List.setIfInBounds_toArray, List.set_cons_zero, List.set_cons_succ]
    refine wpAnyH_take (i := 3) (oi := ⟨_, _, _, _, _, _⟩) (v := .agg (qzero id)) rfl (by kernel_rfl) (by kernel_rfl) (by kernel_rfl) (fun _ _ _ h => h) (yieldsIf_build (by rfl) 42 #[(0, .tmp 13)] rfl (ps := #[(0, hv id)]) (by simp [Act.put, Act.eval]) (buildQ id)) hS ?_
    try simp only [Act.put, List.setIfInBounds_toArray, List.set_cons_zero, List.set_cons_succ]
    refine wpAnyH_ready (rs := [1, 4]) (by kernel_rfl) (by simp) ?_
    refine AllReadyH.cons (o := ⟨_, _, _, _, _, _⟩) rfl (fun K hK => ?_) (AllReadyH.cons (o := ⟨_, _, _, _, _, _⟩) rfl (fun K hK => ?_) AllReadyH.nil)
    · rw [if_pos (by rfl)]
      go_step
      refine (pnew id _).mono ?_
      rintro e w1 ⟨p, bm, rfl, hv1, hp1, hbm1, hb1⟩
      simp only []
      refine hK.out _ _ (hS.trans (hb1.mono hS.size)) (fun hS' => ?_)
      clear hS hK
      have hS := hS'; clear hS'
      try simp only [Act.put, List.setIfInBounds_toArray, List.set_cons_zero, List.set_cons_succ]
      refine wpAnyH_take (i := 5) (oi := ⟨_, _, _, _, _, _⟩) (v := ?_) rfl (by kernel_rfl) (by kernel_rfl) (by kernel_rfl) (fun _ _ _ h => h) (Or.inl ⟨by rfl, ?_⟩) hS ?_
      rotate_left
      · intro w0 hs; clear hs; go_simp; try (with_reducible rfl)
      try simp only [Act.put, List.setIfInBounds_toArray, List.set_cons_zero, List.set_cons_succ]
      refine wpAnyH_ready (rs := [4]) (by kernel_rfl) (by simp) ?_
      refine AllReadyH.cons (o := ⟨_, _, _, _, _, _⟩) rfl (fun K hK => ?_) AllReadyH.nil
      rw [if_pos (by rfl)]
      go_simp
      refine hK.out _ _ (hS.alloc hS.size _) (fun hS' => ?_)
      clear hS hK
      have hS := hS'; clear hS'
      try simp only [Act.put, List.setIfInBounds_toArray, List.set_cons_zero, List.set_cons_succ]
      refine wpAnyH_take (i := 6) (oi := ⟨_, _, _, _, _, _⟩) (v := ?_) rfl (by kernel_rfl) (by kernel_rfl) (by kernel_rfl) (fun _ _ _ h => h) (Or.inl ⟨by rfl, ?_⟩) hS ?_
      rotate_left
      · intro w0 hs; clear hs; go_simp; try (with_reducible rfl)
      try simp only [Act.put, List.setIfInBounds_toArray, List.set_cons_zero, List.set_cons_succ]
      refine wpAnyH_done (by kernel_rfl) ?_ _
      first | exact nrm_mk ⟨(p, bm, w1.heap.size), both0_drew (both0_1 (w := wB.drew) id hv1 hp1 hbm1 hb1), rfl⟩ | exact nrm_mk ⟨(p, bm, wB.heap.size), both0_drew (both0_2 (w := wB.drew) id hv1 hp1 hbm1 hb1), rfl⟩
    · rw [if_pos (by rfl)]
      go_simp
      refine hK.out _ _ (hS.alloc hS.size _) (fun hS' => ?_)
      clear hS hK
      have hS := hS'; clear hS'
      try simp only [Act.put, List.setIfInBounds_toArray, List.set_cons_zero, List.set_cons_succ]
      refine wpAnyH_ready (rs := [1]) (by kernel_rfl) (by simp) ?_
      refine AllReadyH.cons (o := ⟨_, _, _, _, _, _⟩) rfl (fun K hK => ?_) AllReadyH.nil
      rw [if_pos (by rfl)]
      go_step
      refine (pnew id _).mono ?_
      rintro e w1 ⟨p, bm, rfl, hv1, hp1, hbm1, hb1⟩
      simp only []
      refine hK.out _ _ (hS.trans (hb1.mono hS.size)) (fun hS' => ?_)
      clear hS hK
      have hS := hS'; clear hS'
      try simp only [Act.put, List.setIfInBounds_toArray, List.set_cons_zero, List.set_cons_succ]
      refine wpAnyH_take (i := 5) (oi := ⟨_, _, _, _, _, _⟩) (v := ?_) rfl (by kernel_rfl) (by kernel_rfl) (by kernel_rfl) (fun _ _ _ h => h) (Or.inl ⟨by rfl, ?_⟩) hS ?_
      rotate_left
      · intro w0 hs; clear hs; go_simp; try (with_reducible rfl)
      try simp only [Act.put, List.setIfInBounds_toArray, List.set_cons_zero, List.set_cons_succ]
      refine wpAnyH_take (i := 6) (oi := ⟨_, _, _, _, _, _⟩) (v := ?_) rfl (by kernel_rfl) (by kernel_rfl) (by kernel_rfl) (fun _ _ _ h => h) (Or.inl ⟨by rfl, ?_⟩) hS ?_
      rotate_left
      · intro w0 hs; clear hs; go_simp; try (with_reducible rfl)
      try simp only [Act.put, List.setIfInBounds_toArray, List.set_cons_zero, List.set_cons_succ]
      refine wpAnyH_done (by kernel_rfl) ?_ _
      first | exact nrm_mk ⟨(p, bm, w1.heap.size), both0_drew (both0_1 (w := wB.drew) id hv1 hp1 hbm1 hb1), rfl⟩ | exact nrm_mk ⟨(p, bm, wB.heap.size), both0_drew (both0_2 (w := wB.drew) id hv1 hp1 hbm1 hb1), rfl⟩
  rintro ⟨p, bm, q⟩ w2 ⟨hV, hQ, hp, hbm, hq, hqp, hqb, hb2⟩
  simp only [] at hV hQ hp hbm hq hqp hqb
  try simp only [Act.put, List.setIfInBounds_toArray, List.set_cons_zero, List.set_cons_succ]
  have H2 := Lib.hid (And.intro hV (And.intro hQ hb2))
  clear hV hQ hb2
  go_wp2
  go_loopg [18] len (fun gh i wx => ∃ k : Nat, k ≤ len ∧ k ≤ 51 ∧ i = .int .i64 (k : Int) ∧ gh = len - k ∧ Hid (Liv wB wx p bm q k))
  case atStart => exact ⟨0, Nat.zero_le _, Nat.zero_le _, rfl, rfl, [], none, none, H2.out.1, H2.out.2.1, VL.ok_nil, Nat.le_refl _, (fun g hg => by cases hg), (fun g hg => by cases hg), H2.out.2.2⟩
  case round =>
    obtain ⟨k, hk, hk51, rfl, hg, HM⟩ := hrel
    have HG := Lib.hid hg
    clear hg
    obtain ⟨L, o, o2, hV, hQ, hok, hlk, ho, ho2, hbw⟩ := HM.out
    have hfp : ∀ g, foot3 p bm o g → wB.heap.size ≤ g ∧ g ≠ q ∧ o2 ≠ some g := by
      rintro g (rfl | rfl | h)
      · exact ⟨hp, fun h => hqp h.symm, fun h => (ho2 _ h).2.1 rfl⟩
      · exact ⟨hbm, fun h => hqb h.symm, fun h => (ho2 _ h).2.2 rfl⟩
      · exact ho g h
    by_cases hlt : k < len
    · obtain ⟨b, off, rfl, hr, hdo, hbl⟩ := (HD.out.below hbw) k hlt
      generalize D k = d at *
      have hst := storeDo d wr
      have BH := Lib.hid (Blk.new wr (do1 d).toArray 29)
      have K1 := (Below.refl wr.heap.size wr).alloc (Nat.le_refl _) (.cells (do1 d).toArray 29)
      have HV := Lib.hid (hV.below K1)
      have HQ := Lib.hid (hQ.below K1)
      have hqlt := hQ.lt
      have hnf : ∀ g, (foot3 p bm o g ∨ g = q ∨ o2 = some g) → g < wr.heap.size ∧ wB.heap.size ≤ g := by
        rintro g (h | rfl | h)
        · exact ⟨hV.lt g h, (hfp g h).1⟩
        · exact ⟨hqlt.1, hq⟩
        · exact ⟨hqlt.2 g h, (ho2 g h).1⟩
      have K2 := hbw.trans (K1.mono hbw.size)
      have HS := Lib.hid (And.intro hok (And.intro hlk (And.intro ho (And.intro ho2 (And.intro hfp (And.intro hnf K2))))))
      have hgn : ¬ (foot3 p bm o wr.heap.size ∨ wr.heap.size = q ∨ o2 = some wr.heap.size) := fun h => Nat.lt_irrefl _ (hnf _ h).1
      clear hV hQ hok hlk ho ho2 hbw K1 K2 hnf hfp hqlt
      go_upto_region 5 with (refine wpList_load_mid rfl 29 (.tmp 21) rfl b (off + k * 34) rfl (do1 d) _ hr Try.underlying29 rfl DI ?_)
      generalize wr.alloc (.cells (do1 d).toArray 29) = wC at *
      generalize hgd : wr.heap.size = GD at *
      have hgl := BH.out.lt
      have c33 := do_leave BH.out
      have c0 : wC.cell? ⟨GD, 0, none⟩ = some (.int .i64 d.1) := BH.out.cell 0
      have ch := do_hash BH.out
      obtain ⟨x, n, lv⟩ := d
      have hwf := hdo.1
      have hnn := hdo.2
      clear hst hr hdo
      have hlk := HS.out.2.1
      by_cases h50 : 50 < k
      · have HV9 := HV
        have HQ9 := HQ
        have HS9 := HS
        clear ch c0 c33
        have hwf9 : (Lit.int .i64 (-9)).wf = true := by decide
        cases hb9 : vhas L (-9) with
        | true =>
          have PV := Lib.hid (pvote_yes p L bm o (-9) id wC.drew HV9.out.drew hwf9 (by omega) hb9)
          have QV := fun w5 h5 => qvote_yes q L o2 (-9) id w5 h5 (by omega) hb9
          have HC := Lib.hid hb9
          clear hb9
          have HSEP := Lib.hid (show ∀ g o5, (∀ g, o5 = some g → o = some g ∨ wC.heap.size ≤ g) → foot3 p bm o5 g → ¬ (g = q ∨ o2 = some g) from fun g o5 ho5 h e => by
            have hold : g < wC.heap.size := by
              rcases e with rfl | e
              · exact HQ9.out.lt.1
              · exact HQ9.out.lt.2 g e
            rcases h with rfl | rfl | h
            · rcases e with e | e
              · exact hqp e.symm
              · exact (HS9.out.2.2.2.1 _ e).2.1 rfl
            · rcases e with e | e
              · exact hqb e.symm
              · exact (HS9.out.2.2.2.1 _ e).2.2 rfl
            · rcases ho5 g h with h | h
              · rcases e with e | e
                · exact (HS9.out.2.2.1 g h).2.1 e
                · exact (HS9.out.2.2.1 g h).2.2 e
              · omega)
          have hsep : ∀ g {o5 : Option Nat}, (∀ g, o5 = some g → o = some g ∨ wC.heap.size ≤ g) → foot3 p bm o5 g → (g = q ∨ o2 = some g) → False := fun g o5 => HSEP.out g o5
          have hK9 := HS9.out.2.2.2.2.2.2
          have hg9 : G0 < wC.heap.size := Nat.lt_of_lt_of_le hg0 hK9.size
          have hgn9 : ¬ (foot3 p bm o G0 ∨ G0 = q ∨ o2 = some G0) := fun h => by have := (HS9.out.2.2.2.2.2.1 _ h).2; omega
          have LD9 : wC.rangeAt G0 0 (hls id) := blk_range (BX.out.beyond hK9)
          clear hK9
          go_upto_region 13 with fail
          refine wp_region_held_drew (S := fun w' => Keep (fun g => foot3 p bm o g ∨ g = q ∨ o2 = some g) wC w') (by kernel_rfl) ((Keep.refl _ _).drew) (fun hS => ?_)
          refine wpAnyH_take (i := 0) (oi := ⟨_, _, _, _, _, _⟩) (v := ?_) rfl (by kernel_rfl) (by kernel_rfl) (by kernel_rfl) (fun _ _ _ h => h) (Or.inl ⟨by rfl, ?_⟩) hS ?_
          rotate_left
          · intro w0 hs; clear hs; go_simp; try (with_reducible rfl)
          try simp only [Act.put, List.setIfInBounds_toArray, List.set_cons_zero, List.set_cons_succ]
          refine wpAnyH_take (i := 1) (oi := ⟨_, _, _, _, _, _⟩) (v := hv id) rfl (by kernel_rfl) (by kernel_rfl) (by kernel_rfl) (fun _ _ _ h => h) (yieldsIf_load_mid (by rfl) 26 (.tmp 2) rfl G0 0 rfl (hls id) (.array 32 5) (fun _ hs j v hv => (hs.cell (p := ⟨G0, _, none⟩) hg9 hgn9).trans (LD9 j v hv)) Try.underlying26 rfl LDI) hS ?_
          try simp only [Act.put, List.setIfInBounds_toArray, List.set_cons_zero, List.set_cons_succ]
          refine wpAnyH_take (i := 3) (oi := ⟨_, _, _, _, _, _⟩) (v := ?_) rfl (by kernel_rfl) (by kernel_rfl) (by kernel_rfl) (fun _ _ _ h => h) (Or.inl ⟨by rfl, ?_⟩) hS ?_
          rotate_left
          · intro w0 hs; clear hs; go_simp; try (with_reducible rfl)
          try simp only [Act.put, List.setIfInBounds_toArray, List.set_cons_zero, List.set_cons_succ]
          refine wpAnyH_take (i := 4) (oi := ⟨_, _, _, _, _, _⟩) (v := hv id) rfl (by kernel_rfl) (by kernel_rfl) (by kernel_rfl) (fun _ _ _ h => h) (yieldsIf_load_mid (by rfl) 26 (.tmp 2) rfl G0 0 rfl (hls id) (.array 32 5) (fun _ hs j v hv => (hs.cell (p := ⟨G0, _, none⟩) hg9 hgn9).trans (LD9 j v hv)) Try.underlying26 rfl LDI) hS ?_
          try simp only [Act.put, List.setIfInBounds_toArray, List.set_cons_zero, List.set_cons_succ]
          refine wpAnyH_ready (rs := [2]) (by kernel_rfl) (by simp) ?_
          refine AllReadyH.cons (o := ⟨_, _, _, _, _, _⟩) rfl (fun K hK => ?_) AllReadyH.nil
          rw [if_pos (by rfl)]
          go_step
          refine PV.out.mono ?_
          rintro e w5 ⟨rfl, o5, hv5, ho5, hk5⟩
          have HQ5 := Lib.hid ((HQ9.out.below ((Below.refl _ _).drew)).keep hk5 (fun h => (HS9.out.2.2.2.2.1 _ h).2.1 rfl) (fun g hg h => (HS9.out.2.2.2.2.1 _ h).2.2 hg))
          simp only []
          refine hK.out _ _ ((Keep.refl _ wC).drew.trans (hk5.mono fun _ h => .inl h)) (fun hS' => ?_)
          clear hS hK
          have hS := hS'; clear hS'
          try simp only [Act.put, List.setIfInBounds_toArray, List.set_cons_zero, List.set_cons_succ]
          refine wpAnyH_ready (rs := [5]) (by kernel_rfl) (by simp) ?_
          refine AllReadyH.cons (o := ⟨_, _, _, _, _, _⟩) rfl (fun K hK => ?_) AllReadyH.nil
          rw [if_pos (by rfl)]
          go_step
          refine (QV w5 HQ5.out).mono ?_
          rintro e w6 ⟨rfl, o6, hq6, ho6, hk6⟩
          have HV6 := Lib.hid (hv5.keep hk6 (fun g h e => hsep g ho5 h e))
          simp only []
          refine hK.out _ _ (hS.trans' hk6 (fun _ h => .inl (.inr h))) (fun hS' => ?_)
          clear hS hK
          have hS := hS'; clear hS'
          try simp only [Act.put, List.setIfInBounds_toArray, List.set_cons_zero, List.set_cons_succ]
          refine wpAnyH_take (i := 6) (oi := ⟨_, _, _, _, _, _⟩) (v := ?_) rfl (by kernel_rfl) (by kernel_rfl) (by kernel_rfl) (fun _ _ _ h => h) (Or.inl ⟨by rfl, ?_⟩) hS ?_
          rotate_left
          · intro w0 hs; clear hs; go_simp; try (with_reducible rfl)
          try simp only [Act.put, List.setIfInBounds_toArray, List.set_cons_zero, List.set_cons_succ]
          refine wpAnyH_take (i := 7) (oi := ⟨_, _, _, _, _, _⟩) (v := ?_) rfl (by kernel_rfl) (by kernel_rfl) (by kernel_rfl) (fun _ _ _ h => h) (Or.inl ⟨by rfl, ?_⟩) hS ?_
          rotate_left
          · intro w0 hs; clear hs; go_simp; try (with_reducible rfl)
          try simp only [Act.put, List.setIfInBounds_toArray, List.set_cons_zero, List.set_cons_succ]
          refine wpAnyH_take (i := 8) (oi := ⟨_, _, _, _, _, _⟩) (v := ?_) rfl (by kernel_rfl) (by kernel_rfl) (by kernel_rfl) (fun _ _ _ h => h) (Or.inl ⟨by rfl, ?_⟩) hS ?_
          rotate_left
          · intro w0 hs; clear hs; go_simp; try (with_reducible rfl)
          try simp only [Act.put, List.setIfInBounds_toArray, List.set_cons_zero, List.set_cons_succ]
          refine wpAnyH_ready (rs := [9]) (by kernel_rfl) (by simp) ?_
          refine AllReadyH.cons (o := ⟨_, _, _, _, _, _⟩) rfl (fun K hK => ?_) AllReadyH.nil
          rw [if_pos (by rfl)]
          go_step
          have PA := phas p L bm o5 (-9) _ HV6.out hwf9
          rw [HC.out] at PA
          refine PA.mono ?_
          rintro e w7 ⟨rfl, hb7⟩
          simp only []
          refine hK.out _ _ (hS.trans (Keep.of_below hb7)) (fun hS' => ?_)
          clear hS hK
          have hS := hS'; clear hS'
          try simp only [Act.put, List.setIfInBounds_toArray, List.set_cons_zero, List.set_cons_succ]
          refine wpAnyH_take (i := 10) (oi := ⟨_, _, _, _, _, _⟩) (v := ?_) rfl (by kernel_rfl) (by kernel_rfl) (by kernel_rfl) (fun _ _ _ h => h) (Or.inl ⟨by rfl, ?_⟩) hS ?_
          rotate_left
          · intro w0 hs; clear hs; go_simp; try (with_reducible rfl)
          try simp only [Act.put, List.setIfInBounds_toArray, List.set_cons_zero, List.set_cons_succ]
          refine wpAnyH_take (i := 11) (oi := ⟨_, _, _, _, _, _⟩) (v := ?_) rfl (by kernel_rfl) (by kernel_rfl) (by kernel_rfl) (fun _ _ _ h => h) (Or.inl ⟨by rfl, ?_⟩) hS ?_
          rotate_left
          · intro w0 hs; clear hs; go_simp; try (with_reducible rfl)
          try simp only [Act.put, List.setIfInBounds_toArray, List.set_cons_zero, List.set_cons_succ]
          refine wpAnyH_done (by kernel_rfl) ?_ _
          have R9 := Lib.hid (HS9.out.2.2.2.2.2.2.trans (hS.below HS9.out.2.2.2.2.2.2.size (fun g h => (HS9.out.2.2.2.2.2.1 g h).2)))
          clear hS
          go_wp2
          go_ret
          subst hgw
          exact ⟨rfl, K0.out.trans (R9.out.mono K0.out.size)⟩
        | false =>
          have PV := Lib.hid (pvote_no p L bm o (-9) id wC.drew HV9.out.drew hwf9 (by omega) hb9)
          have QV := fun w5 h5 => qvote_no q L o2 (-9) id w5 h5 (by omega) hb9
          have HC := Lib.hid (show vhas (L ++ [((-9 : Int), id)]) (-9) = true from by simp [vhas])
          clear hb9
          have HSEP := Lib.hid (show ∀ g o5, (∀ g, o5 = some g → o = some g ∨ wC.heap.size ≤ g) → foot3 p bm o5 g → ¬ (g = q ∨ o2 = some g) from fun g o5 ho5 h e => by
            have hold : g < wC.heap.size := by
              rcases e with rfl | e
              · exact HQ9.out.lt.1
              · exact HQ9.out.lt.2 g e
            rcases h with rfl | rfl | h
            · rcases e with e | e
              · exact hqp e.symm
              · exact (HS9.out.2.2.2.1 _ e).2.1 rfl
            · rcases e with e | e
              · exact hqb e.symm
              · exact (HS9.out.2.2.2.1 _ e).2.2 rfl
            · rcases ho5 g h with h | h
              · rcases e with e | e
                · exact (HS9.out.2.2.1 g h).2.1 e
                · exact (HS9.out.2.2.1 g h).2.2 e
              · omega)
          have hsep : ∀ g {o5 : Option Nat}, (∀ g, o5 = some g → o = some g ∨ wC.heap.size ≤ g) → foot3 p bm o5 g → (g = q ∨ o2 = some g) → False := fun g o5 => HSEP.out g o5
          have hK9 := HS9.out.2.2.2.2.2.2
          have hg9 : G0 < wC.heap.size := Nat.lt_of_lt_of_le hg0 hK9.size
          have hgn9 : ¬ (foot3 p bm o G0 ∨ G0 = q ∨ o2 = some G0) := fun h => by have := (HS9.out.2.2.2.2.2.1 _ h).2; omega
          have LD9 : wC.rangeAt G0 0 (hls id) := blk_range (BX.out.beyond hK9)
          clear hK9
          go_upto_region 13 with fail
          refine wp_region_held_drew (S := fun w' => Keep (fun g => foot3 p bm o g ∨ g = q ∨ o2 = some g) wC w') (by kernel_rfl) ((Keep.refl _ _).drew) (fun hS => ?_)
          refine wpAnyH_take (i := 0) (oi := ⟨_, _, _, _, _, _⟩) (v := ?_) rfl (by kernel_rfl) (by kernel_rfl) (by kernel_rfl) (fun _ _ _ h => h) (Or.inl ⟨by rfl, ?_⟩) hS ?_
          rotate_left
          · intro w0 hs; clear hs; go_simp; try (with_reducible rfl)
          try simp only [Act.put, List.setIfInBounds_toArray, List.set_cons_zero, List.set_cons_succ]
          refine wpAnyH_take (i := 1) (oi := ⟨_, _, _, _, _, _⟩) (v := hv id) rfl (by kernel_rfl) (by kernel_rfl) (by kernel_rfl) (fun _ _ _ h => h) (yieldsIf_load_mid (by rfl) 26 (.tmp 2) rfl G0 0 rfl (hls id) (.array 32 5) (fun _ hs j v hv => (hs.cell (p := ⟨G0, _, none⟩) hg9 hgn9).trans (LD9 j v hv)) Try.underlying26 rfl LDI) hS ?_
          try simp only [Act.put, List.setIfInBounds_toArray, List.set_cons_zero, List.set_cons_succ]
          refine wpAnyH_take (i := 3) (oi := ⟨_, _, _, _, _, _⟩) (v := ?_) rfl (by kernel_rfl) (by kernel_rfl) (by kernel_rfl) (fun _ _ _ h => h) (Or.inl ⟨by rfl, ?_⟩) hS ?_
          rotate_left
          · intro w0 hs; clear hs; go_simp; try (with_reducible rfl)
          try simp only [Act.put, List.setIfInBounds_toArray, List.set_cons_zero, List.set_cons_succ]
          refine wpAnyH_take (i := 4) (oi := ⟨_, _, _, _, _, _⟩) (v := hv id) rfl (by kernel_rfl) (by kernel_rfl) (by kernel_rfl) (fun _ _ _ h => h) (yieldsIf_load_mid (by rfl) 26 (.tmp 2) rfl G0 0 rfl (hls id) (.array 32 5) (fun _ hs j v hv => (hs.cell (p := ⟨G0, _, none⟩) hg9 hgn9).trans (LD9 j v hv)) Try.underlying26 rfl LDI) hS ?_
          try simp only [Act.put, List.setIfInBounds_toArray, List.set_cons_zero, List.set_cons_succ]
          refine wpAnyH_ready (rs := [2]) (by kernel_rfl) (by simp) ?_
          refine AllReadyH.cons (o := ⟨_, _, _, _, _, _⟩) rfl (fun K hK => ?_) AllReadyH.nil
          rw [if_pos (by rfl)]
          go_step
          refine PV.out.mono ?_
          rintro e w5 ⟨rfl, o5, hv5, ho5, hk5⟩
          have HQ5 := Lib.hid ((HQ9.out.below ((Below.refl _ _).drew)).keep hk5 (fun h => (HS9.out.2.2.2.2.1 _ h).2.1 rfl) (fun g hg h => (HS9.out.2.2.2.2.1 _ h).2.2 hg))
          simp only []
          refine hK.out _ _ ((Keep.refl _ wC).drew.trans (hk5.mono fun _ h => .inl h)) (fun hS' => ?_)
          clear hS hK
          have hS := hS'; clear hS'
          try simp only [Act.put, List.setIfInBounds_toArray, List.set_cons_zero, List.set_cons_succ]
          refine wpAnyH_ready (rs := [5]) (by kernel_rfl) (by simp) ?_
          refine AllReadyH.cons (o := ⟨_, _, _, _, _, _⟩) rfl (fun K hK => ?_) AllReadyH.nil
          rw [if_pos (by rfl)]
          go_step
          refine (QV w5 HQ5.out).mono ?_
          rintro e w6 ⟨rfl, o6, hq6, ho6, hk6⟩
          have HV6 := Lib.hid (hv5.keep hk6 (fun g h e => hsep g ho5 h e))
          simp only []
          refine hK.out _ _ (hS.trans' hk6 (fun _ h => .inl (.inr h))) (fun hS' => ?_)
          clear hS hK
          have hS := hS'; clear hS'
          try simp only [Act.put, List.setIfInBounds_toArray, List.set_cons_zero, List.set_cons_succ]
          refine wpAnyH_take (i := 6) (oi := ⟨_, _, _, _, _, _⟩) (v := ?_) rfl (by kernel_rfl) (by kernel_rfl) (by kernel_rfl) (fun _ _ _ h => h) (Or.inl ⟨by rfl, ?_⟩) hS ?_
          rotate_left
          · intro w0 hs; clear hs; go_simp; try (with_reducible rfl)
          try simp only [Act.put, List.setIfInBounds_toArray, List.set_cons_zero, List.set_cons_succ]
          refine wpAnyH_take (i := 7) (oi := ⟨_, _, _, _, _, _⟩) (v := ?_) rfl (by kernel_rfl) (by kernel_rfl) (by kernel_rfl) (fun _ _ _ h => h) (Or.inl ⟨by rfl, ?_⟩) hS ?_
          rotate_left
          · intro w0 hs; clear hs; go_simp; try (with_reducible rfl)
          try simp only [Act.put, List.setIfInBounds_toArray, List.set_cons_zero, List.set_cons_succ]
          refine wpAnyH_take (i := 8) (oi := ⟨_, _, _, _, _, _⟩) (v := ?_) rfl (by kernel_rfl) (by kernel_rfl) (by kernel_rfl) (fun _ _ _ h => h) (Or.inl ⟨by rfl, ?_⟩) hS ?_
          rotate_left
          · intro w0 hs; clear hs; go_simp; try (with_reducible rfl)
          try simp only [Act.put, List.setIfInBounds_toArray, List.set_cons_zero, List.set_cons_succ]
          refine wpAnyH_ready (rs := [9]) (by kernel_rfl) (by simp) ?_
          refine AllReadyH.cons (o := ⟨_, _, _, _, _, _⟩) rfl (fun K hK => ?_) AllReadyH.nil
          rw [if_pos (by rfl)]
          go_step
          have PA := phas p (L ++ [((-9 : Int), id)]) bm o5 (-9) _ HV6.out hwf9
          rw [HC.out] at PA
          refine PA.mono ?_
          rintro e w7 ⟨rfl, hb7⟩
          simp only []
          refine hK.out _ _ (hS.trans (Keep.of_below hb7)) (fun hS' => ?_)
          clear hS hK
          have hS := hS'; clear hS'
          try simp only [Act.put, List.setIfInBounds_toArray, List.set_cons_zero, List.set_cons_succ]
          refine wpAnyH_take (i := 10) (oi := ⟨_, _, _, _, _, _⟩) (v := ?_) rfl (by kernel_rfl) (by kernel_rfl) (by kernel_rfl) (fun _ _ _ h => h) (Or.inl ⟨by rfl, ?_⟩) hS ?_
          rotate_left
          · intro w0 hs; clear hs; go_simp; try (with_reducible rfl)
          try simp only [Act.put, List.setIfInBounds_toArray, List.set_cons_zero, List.set_cons_succ]
          refine wpAnyH_take (i := 11) (oi := ⟨_, _, _, _, _, _⟩) (v := ?_) rfl (by kernel_rfl) (by kernel_rfl) (by kernel_rfl) (fun _ _ _ h => h) (Or.inl ⟨by rfl, ?_⟩) hS ?_
          rotate_left
          · intro w0 hs; clear hs; go_simp; try (with_reducible rfl)
          try simp only [Act.put, List.setIfInBounds_toArray, List.set_cons_zero, List.set_cons_succ]
          refine wpAnyH_done (by kernel_rfl) ?_ _
          have R9 := Lib.hid (HS9.out.2.2.2.2.2.2.trans (hS.below HS9.out.2.2.2.2.2.2.size (fun g h => (HS9.out.2.2.2.2.2.1 g h).2)))
          clear hS
          go_wp2
          go_ret
          subst hgw
          exact ⟨rfl, K0.out.trans (R9.out.mono K0.out.size)⟩
      · cases lv with
        | true =>
          cases hb : vhas L x with
          | true =>
            have HB := Lib.hid hb
            clear hb
            have PL := Lib.hid (pleave_yes p L bm o x wC.drew HV.out.drew hwf (by omega) HS.out.1.1 HB.out)
            go_upto_region 8 with fail
            refine wp_region_held_drew (S := fun w' => Keep (fun g => foot3 p bm o g ∨ g = q ∨ o2 = some g) wC w') (by kernel_rfl) ((Keep.refl _ _).drew) (fun hS => ?_)
            refine wpAnyH_take (i := 0) (oi := ⟨_, _, _, _, _, _⟩) (v := ?_) rfl (by kernel_rfl) (by kernel_rfl) (by kernel_rfl) (fun _ _ _ h => h) (Or.inl ⟨by rfl, ?_⟩) hS ?_
            rotate_left
            · intro w0 hs; have hc0 := (hs.cell (p := ⟨GD, 0, none⟩) hgl hgn).trans c0; clear hs; go_simp; try (with_reducible rfl)
            try simp only [Act.put, List.setIfInBounds_toArray, List.set_cons_zero, List.set_cons_succ]
            refine wpAnyH_take (i := 1) (oi := ⟨_, _, _, _, _, _⟩) (v := ?_) rfl (by kernel_rfl) (by kernel_rfl) (by kernel_rfl) (fun _ _ _ h => h) (Or.inl ⟨by rfl, ?_⟩) hS ?_
            rotate_left
            · intro w0 hs; have hc0 := (hs.cell (p := ⟨GD, 0, none⟩) hgl hgn).trans c0; clear hs; go_simp; try (with_reducible rfl)
            try simp only [Act.put, List.setIfInBounds_toArray, List.set_cons_zero, List.set_cons_succ]
            refine wpAnyH_take (i := 2) (oi := ⟨_, _, _, _, _, _⟩) (v := ?_) rfl (by kernel_rfl) (by kernel_rfl) (by kernel_rfl) (fun _ _ _ h => h) (Or.inl ⟨by rfl, ?_⟩) hS ?_
            rotate_left
            · intro w0 hs; have hc0 := (hs.cell (p := ⟨GD, 0, none⟩) hgl hgn).trans c0; clear hs; go_simp; try (with_reducible rfl)
            try simp only [Act.put, List.setIfInBounds_toArray, List.set_cons_zero, List.set_cons_succ]
            refine wpAnyH_take (i := 4) (oi := ⟨_, _, _, _, _, _⟩) (v := ?_) rfl (by kernel_rfl) (by kernel_rfl) (by kernel_rfl) (fun _ _ _ h => h) (Or.inl ⟨by rfl, ?_⟩) hS ?_
            rotate_left
            · intro w0 hs; have hc0 := (hs.cell (p := ⟨GD, 0, none⟩) hgl hgn).trans c0; clear hs; go_simp; try (with_reducible rfl)
            try simp only [Act.put, List.setIfInBounds_toArray, List.set_cons_zero, List.set_cons_succ]
            refine wpAnyH_take (i := 5) (oi := ⟨_, _, _, _, _, _⟩) (v := ?_) rfl (by kernel_rfl) (by kernel_rfl) (by kernel_rfl) (fun _ _ _ h => h) (Or.inl ⟨by rfl, ?_⟩) hS ?_
            rotate_left
            · intro w0 hs; have hc0 := (hs.cell (p := ⟨GD, 0, none⟩) hgl hgn).trans c0; clear hs; go_simp; try (with_reducible rfl)
            try simp only [Act.put, List.setIfInBounds_toArray, List.set_cons_zero, List.set_cons_succ]
            refine wpAnyH_take (i := 6) (oi := ⟨_, _, _, _, _, _⟩) (v := ?_) rfl (by kernel_rfl) (by kernel_rfl) (by kernel_rfl) (fun _ _ _ h => h) (Or.inl ⟨by rfl, ?_⟩) hS ?_
            rotate_left
            · intro w0 hs; have hc0 := (hs.cell (p := ⟨GD, 0, none⟩) hgl hgn).trans c0; clear hs; go_simp; try (with_reducible rfl)
            try simp only [Act.put, List.setIfInBounds_toArray, List.set_cons_zero, List.set_cons_succ]
            refine wpAnyH_ready (rs := [3]) (by kernel_rfl) (by simp) ?_
            refine AllReadyH.cons (o := ⟨_, _, _, _, _, _⟩) rfl (fun K hK => ?_) AllReadyH.nil
            rw [if_pos (by rfl)]
            go_step
            refine PL.out.mono ?_
            rintro e w3 ⟨rfl, o3, hv3, ho3, hk3⟩
            have HQ3 := Lib.hid ((HQ.out.below ((Below.refl _ _).drew)).keep hk3 (fun h => (HS.out.2.2.2.2.1 _ h).2.1 rfl) (fun g hg h => (HS.out.2.2.2.2.1 _ h).2.2 hg))
            simp only []
            refine hK.out _ _ ((Keep.refl _ wC).drew.trans (hk3.mono fun _ h => .inl h)) (fun hS' => ?_)
            clear hS hK
            have hS := hS'; clear hS'
            try simp only [Act.put, List.setIfInBounds_toArray, List.set_cons_zero, List.set_cons_succ]
            refine wpAnyH_ready (rs := [7]) (by kernel_rfl) (by simp) ?_
            refine AllReadyH.cons (o := ⟨_, _, _, _, _, _⟩) rfl (fun K hK => ?_) AllReadyH.nil
            rw [if_pos (by rfl)]
            go_step
            refine (qleave_yes q L o2 x w3 HQ3.out (by omega) HB.out).mono ?_
            rintro e w4 ⟨rfl, o4, hq4, ho4, hk4⟩
            simp only []
            refine hK.out _ _ (hS.trans' hk4 (fun _ h => .inl (.inr h))) (fun hS' => ?_)
            clear hS hK
            have hS := hS'; clear hS'
            try simp only [Act.put, List.setIfInBounds_toArray, List.set_cons_zero, List.set_cons_succ]
            refine wpAnyH_take (i := 8) (oi := ⟨_, _, _, _, _, _⟩) (v := ?_) rfl (by kernel_rfl) (by kernel_rfl) (by kernel_rfl) (fun _ _ _ h => h) (Or.inl ⟨by rfl, ?_⟩) hS ?_
            rotate_left
            · intro w0 hs; have hc0 := (hs.cell (p := ⟨GD, 0, none⟩) hgl hgn).trans c0; clear hs; go_simp; try (with_reducible rfl)
            try simp only [Act.put, List.setIfInBounds_toArray, List.set_cons_zero, List.set_cons_succ]
            refine wpAnyH_take (i := 9) (oi := ⟨_, _, _, _, _, _⟩) (v := ?_) rfl (by kernel_rfl) (by kernel_rfl) (by kernel_rfl) (fun _ _ _ h => h) (Or.inl ⟨by rfl, ?_⟩) hS ?_
            rotate_left
            · intro w0 hs; have hc0 := (hs.cell (p := ⟨GD, 0, none⟩) hgl hgn).trans c0; clear hs; go_simp; try (with_reducible rfl)
            try simp only [Act.put, List.setIfInBounds_toArray, List.set_cons_zero, List.set_cons_succ]
            refine wpAnyH_done (by kernel_rfl) ?_ _
            have hV4 : VAt w4 p (vdel L x) bm o3 := hv3.keep hk4 (fun g h e => by
              have hold : g < wC.heap.size := by
                rcases e with rfl | e
                · exact HQ.out.lt.1
                · exact HQ.out.lt.2 g e
              rcases h with rfl | rfl | h
              · rcases e with e | e
                · exact hqp e.symm
                · exact (HS.out.2.2.2.1 _ e).2.1 rfl
              · rcases e with e | e
                · exact hqb e.symm
                · exact (HS.out.2.2.2.1 _ e).2.2 rfl
              · rcases ho3 g h with h | h
                · rcases e with e | e
                  · exact (HS.out.2.2.1 g h).2.1 e
                  · exact (HS.out.2.2.1 g h).2.2 e
                · have h : wC.heap.size ≤ g := h
                  omega)
            have HV4 := Lib.hid hV4
            have HV3 := Lib.hid hv3.lt
            have HQ4 := Lib.hid hq4
            have hgl4 : GD < w4.heap.size := Nat.lt_of_lt_of_le hgl hS.size
            have c04 := (hS.cell (p := ⟨GD, 0, none⟩) hgl hgn).trans c0
            have ch4 : w4.rangeAt GD 1 (hls n) := fun j v hv => (hS.cell (p := ⟨GD, _, none⟩) hgl hgn).trans (ch j v hv)
            have hll : (vdel L x).length ≤ k + 1 := by have := vdel_le L x; omega
            have HOK := Lib.hid (VL.ok_del HS.out.1 x)
            have HC := Lib.hid (show vhas (vdel L x) x = false from by rw [vhas_del]; simp)
            clear hv3 hq4 hV4
            generalize (vdel L x) = M2 at HV4 HQ4 hll HOK HC
            have hl4 : M2.length ≤ 10000 := by omega
            have HMW := Lib.hid (show ∀ y ∈ once (M2.map Prod.snd), y < W256 from fun y hy => by
              rw [once_mem] at hy
              obtain ⟨e, he, rfl⟩ := List.mem_map.1 hy
              exact (HOK.out.2 e he).2)
            have hMl : (once (M2.map Prod.snd)).length ≤ 1000000 := by
              refine Nat.le_trans (once_len _) ?_; rw [List.length_map]; omega
            have hSl : (saidBy M2 n).length ≤ 10000 := Nat.le_trans (saidBy_len _ _) hl4
            have H4 := Lib.hid (And.intro hS (And.intro ho3 (And.intro ho4 hk3)))
            skip
            clear hS ho3 ho4 hk3 hk4 PL HQ3 c0 ch c33 hgn
            go_upto_region 10 with fail
            refine wp_region_held_drew (S := fun w' => Below w4.heap.size w4 w') (by kernel_rfl) ((Below.refl _ _).drew) (fun hS => ?_)
            refine wpAnyH_take (i := 0) (oi := ⟨_, _, _, _, _, _⟩) (v := ?_) rfl (by kernel_rfl) (by kernel_rfl) (by kernel_rfl) (fun _ _ _ h => h) (Or.inl ⟨by rfl, ?_⟩) hS ?_
            rotate_left
            · intro w0 hs; have hc0 := (hs.cell (p := ⟨GD, 0, none⟩) hgl4).trans c04; clear hs; go_simp; try (with_reducible rfl)
            try simp only [Act.put, List.setIfInBounds_toArray, List.set_cons_zero, List.set_cons_succ]
            refine wpAnyH_take (i := 1) (oi := ⟨_, _, _, _, _, _⟩) (v := ?_) rfl (by kernel_rfl) (by kernel_rfl) (by kernel_rfl) (fun _ _ _ h => h) (Or.inl ⟨by rfl, ?_⟩) hS ?_
            rotate_left
            · intro w0 hs; have hc0 := (hs.cell (p := ⟨GD, 0, none⟩) hgl4).trans c04; clear hs; go_simp; try (with_reducible rfl)
            try simp only [Act.put, List.setIfInBounds_toArray, List.set_cons_zero, List.set_cons_succ]
            refine wpAnyH_take (i := 2) (oi := ⟨_, _, _, _, _, _⟩) (v := ?_) rfl (by kernel_rfl) (by kernel_rfl) (by kernel_rfl) (fun _ _ _ h => h) (Or.inl ⟨by rfl, ?_⟩) hS ?_
            rotate_left
            · intro w0 hs; have hc0 := (hs.cell (p := ⟨GD, 0, none⟩) hgl4).trans c04; clear hs; go_simp; try (with_reducible rfl)
            try simp only [Act.put, List.setIfInBounds_toArray, List.set_cons_zero, List.set_cons_succ]
            refine wpAnyH_take (i := 3) (oi := ⟨_, _, _, _, _, _⟩) (v := ?_) rfl (by kernel_rfl) (by kernel_rfl) (by kernel_rfl) (fun _ _ _ h => h) (Or.inl ⟨by rfl, ?_⟩) hS ?_
            rotate_left
            · intro w0 hs; have hc0 := (hs.cell (p := ⟨GD, 0, none⟩) hgl4).trans c04; clear hs; go_simp; try (with_reducible rfl)
            try simp only [Act.put, List.setIfInBounds_toArray, List.set_cons_zero, List.set_cons_succ]
            refine wpAnyH_take (i := 4) (oi := ⟨_, _, _, _, _, _⟩) (v := ?_) rfl (by kernel_rfl) (by kernel_rfl) (by kernel_rfl) (fun _ _ _ h => h) (Or.inl ⟨by rfl, ?_⟩) hS ?_
            rotate_left
            · intro w0 hs; have hc0 := (hs.cell (p := ⟨GD, 0, none⟩) hgl4).trans c04; clear hs; go_simp; try (with_reducible rfl)
            try simp only [Act.put, List.setIfInBounds_toArray, List.set_cons_zero, List.set_cons_succ]
            refine wpAnyH_take (i := 5) (oi := ⟨_, _, _, _, _, _⟩) (v := ?_) rfl (by kernel_rfl) (by kernel_rfl) (by kernel_rfl) (fun _ _ _ h => h) (Or.inl ⟨by rfl, ?_⟩) hS ?_
            rotate_left
            · intro w0 hs; have hc0 := (hs.cell (p := ⟨GD, 0, none⟩) hgl4).trans c04; clear hs; go_simp; try (with_reducible rfl)
            try simp only [Act.put, List.setIfInBounds_toArray, List.set_cons_zero, List.set_cons_succ]
            refine wpAnyH_take (i := 6) (oi := ⟨_, _, _, _, _, _⟩) (v := ?_) rfl (by kernel_rfl) (by kernel_rfl) (by kernel_rfl) (fun _ _ _ h => h) (Or.inl ⟨by rfl, ?_⟩) hS ?_
            rotate_left
            · intro w0 hs; have hc0 := (hs.cell (p := ⟨GD, 0, none⟩) hgl4).trans c04; clear hs; go_simp; try (with_reducible rfl)
            try simp only [Act.put, List.setIfInBounds_toArray, List.set_cons_zero, List.set_cons_succ]
            refine wpAnyH_take (i := 8) (oi := ⟨_, _, _, _, _, _⟩) (v := ?_) rfl (by kernel_rfl) (by kernel_rfl) (by kernel_rfl) (fun _ _ _ h => h) (Or.inl ⟨by rfl, ?_⟩) hS ?_
            rotate_left
            · intro w0 hs; have hc0 := (hs.cell (p := ⟨GD, 0, none⟩) hgl4).trans c04; clear hs; go_simp; try (with_reducible rfl)
            try simp only [Act.put, List.setIfInBounds_toArray, List.set_cons_zero, List.set_cons_succ]
            refine wpAnyH_take (i := 9) (oi := ⟨_, _, _, _, _, _⟩) (v := ?_) rfl (by kernel_rfl) (by kernel_rfl) (by kernel_rfl) (fun _ _ _ h => h) (Or.inl ⟨by rfl, ?_⟩) hS ?_
            rotate_left
            · intro w0 hs; have hc0 := (hs.cell (p := ⟨GD, 0, none⟩) hgl4).trans c04; clear hs; go_simp; try (with_reducible rfl)
            try simp only [Act.put, List.setIfInBounds_toArray, List.set_cons_zero, List.set_cons_succ]
            refine wpAnyH_take (i := 10) (oi := ⟨_, _, _, _, _, _⟩) (v := ?_) rfl (by kernel_rfl) (by kernel_rfl) (by kernel_rfl) (fun _ _ _ h => h) (Or.inl ⟨by rfl, ?_⟩) hS ?_
            rotate_left
            · intro w0 hs; have hc0 := (hs.cell (p := ⟨GD, 0, none⟩) hgl4).trans c04; clear hs; go_simp; try (with_reducible rfl)
            try simp only [Act.put, List.setIfInBounds_toArray, List.set_cons_zero, List.set_cons_succ]
            refine wpAnyH_ready (rs := [7]) (by kernel_rfl) (by simp) ?_
            refine AllReadyH.cons (o := ⟨_, _, _, _, _, _⟩) rfl (fun K hK => ?_) AllReadyH.nil
            rw [if_pos (by rfl)]
            go_step
            have PA := phas p M2 bm o3 x _ (HV4.out.below hS) hwf
            rw [HC.out] at PA
            refine PA.mono ?_
            rintro e y1 ⟨rfl, hy1⟩
            simp only []
            refine hK.out _ _ (hS.trans (hy1.mono hS.size)) (fun hS' => ?_)
            clear hS hK
            have hS := hS'; clear hS'
            try simp only [Act.put, List.setIfInBounds_toArray, List.set_cons_zero, List.set_cons_succ]
            refine wpAnyH_ready (rs := [11]) (by kernel_rfl) (by simp) ?_
            refine AllReadyH.cons (o := ⟨_, _, _, _, _, _⟩) rfl (fun K hK => ?_) AllReadyH.nil
            rw [if_pos (by rfl)]
            go_step
            have PA := qhas q M2 o4 x _ (HQ4.out.below hS) hl4
            rw [HC.out] at PA
            refine PA.mono ?_
            rintro e y2 ⟨rfl, hy2⟩
            simp only []
            refine hK.out _ _ (hS.trans (hy2.mono hS.size)) (fun hS' => ?_)
            clear hS hK
            have hS := hS'; clear hS'
            try simp only [Act.put, List.setIfInBounds_toArray, List.set_cons_zero, List.set_cons_succ]
            refine wpAnyH_take (i := 12) (oi := ⟨_, _, _, _, _, _⟩) (v := ?_) rfl (by kernel_rfl) (by kernel_rfl) (by kernel_rfl) (fun _ _ _ h => h) (Or.inl ⟨by rfl, ?_⟩) hS ?_
            rotate_left
            · intro w0 hs; have hc0 := (hs.cell (p := ⟨GD, 0, none⟩) hgl4).trans c04; clear hs; go_simp; try (with_reducible rfl)
            try simp only [Act.put, List.setIfInBounds_toArray, List.set_cons_zero, List.set_cons_succ]
            refine wpAnyH_take (i := 13) (oi := ⟨_, _, _, _, _, _⟩) (v := ?_) rfl (by kernel_rfl) (by kernel_rfl) (by kernel_rfl) (fun _ _ _ h => h) (Or.inl ⟨by rfl, ?_⟩) hS ?_
            rotate_left
            · intro w0 hs; have hc0 := (hs.cell (p := ⟨GD, 0, none⟩) hgl4).trans c04; clear hs; go_simp; try (with_reducible rfl)
            try simp only [Act.put, List.setIfInBounds_toArray, List.set_cons_zero, List.set_cons_succ]
            refine wpAnyH_take (i := 14) (oi := ⟨_, _, _, _, _, _⟩) (v := ?_) rfl (by kernel_rfl) (by kernel_rfl) (by kernel_rfl) (fun _ _ _ h => h) (Or.inl ⟨by rfl, ?_⟩) hS ?_
            rotate_left
            · intro w0 hs; have hc0 := (hs.cell (p := ⟨GD, 0, none⟩) hgl4).trans c04; clear hs; go_simp; try (with_reducible rfl)
            try simp only [Act.put, List.setIfInBounds_toArray, List.set_cons_zero, List.set_cons_succ]
            refine wpAnyH_take (i := 15) (oi := ⟨_, _, _, _, _, _⟩) (v := ?_) rfl (by kernel_rfl) (by kernel_rfl) (by kernel_rfl) (fun _ _ _ h => h) (Or.inl ⟨by rfl, ?_⟩) hS ?_
            rotate_left
            · intro w0 hs; have hc0 := (hs.cell (p := ⟨GD, 0, none⟩) hgl4).trans c04; clear hs; go_simp; try (with_reducible rfl)
            try simp only [Act.put, List.setIfInBounds_toArray, List.set_cons_zero, List.set_cons_succ]
            refine wpAnyH_take (i := 17) (oi := ⟨_, _, _, _, _, _⟩) (v := ?_) rfl (by kernel_rfl) (by kernel_rfl) (by kernel_rfl) (fun _ _ _ h => h) (Or.inl ⟨by rfl, ?_⟩) hS ?_
            rotate_left
            · intro w0 hs; have hc0 := (hs.cell (p := ⟨GD, 0, none⟩) hgl4).trans c04; clear hs; go_simp; try (with_reducible rfl)
            try simp only [Act.put, List.setIfInBounds_toArray, List.set_cons_zero, List.set_cons_succ]
            refine wpAnyH_ready (rs := [16]) (by kernel_rfl) (by simp) ?_
            refine AllReadyH.cons (o := ⟨_, _, _, _, _, _⟩) rfl (fun K hK => ?_) AllReadyH.nil
            rw [if_pos (by rfl)]
            go_step
            refine (psums p M2 bm o3 _ (HV4.out.below hS) hl4 HOK.out).mono ?_
            rintro e y3 ⟨va, oa, rfl, ra, -, hy3⟩
            obtain ⟨qa, ca, rfl, ia⟩ := HsIn.of_row ra HMW.out
            clear ra
            simp only []
            refine hK.out _ _ (hS.trans (hy3.mono hS.size)) (fun hS' => ?_)
            clear hS hK
            have hS := hS'; clear hS'
            try simp only [Act.put, List.setIfInBounds_toArray, List.set_cons_zero, List.set_cons_succ]
            refine wpAnyH_ready (rs := [18]) (by kernel_rfl) (by simp) ?_
            refine AllReadyH.cons (o := ⟨_, _, _, _, _, _⟩) rfl (fun K hK => ?_) AllReadyH.nil
            rw [if_pos (by rfl)]
            go_step
            refine (qsums q M2 o4 _ (HQ4.out.below hS) hl4 HOK.out).mono ?_
            rintro e y4 ⟨vb, ob, rfl, rb, -, hy4⟩
            obtain ⟨qb, cb, rfl, ib⟩ := HsIn.of_row rb HMW.out
            clear rb
            simp only []
            refine hK.out _ _ (hS.trans (hy4.mono hS.size)) (fun hS' => ?_)
            clear hS hK
            have hS := hS'; clear hS'
            try simp only [Act.put, List.setIfInBounds_toArray, List.set_cons_zero, List.set_cons_succ]
            refine wpAnyH_ready (rs := [19]) (by kernel_rfl) (by simp) ?_
            refine AllReadyH.cons (o := ⟨_, _, _, _, _, _⟩) rfl (fun K hK => ?_) AllReadyH.nil
            rw [if_pos (by rfl)]
            go_step
            refine (hequal qa qb _ ca cb _ _ (ia.below hy4) ib hMl).mono ?_
            rintro e y5 ⟨rfl, hy5⟩
            simp only []
            refine hK.out _ _ (hS.trans (hy5.mono hS.size)) (fun hS' => ?_)
            clear hS hK
            have hS := hS'; clear hS'
            try simp only [Act.put, List.setIfInBounds_toArray, List.set_cons_zero, List.set_cons_succ]
            refine wpAnyH_take (i := 20) (oi := ⟨_, _, _, _, _, _⟩) (v := ?_) rfl (by kernel_rfl) (by kernel_rfl) (by kernel_rfl) (fun _ _ _ h => h) (Or.inl ⟨by rfl, ?_⟩) hS ?_
            rotate_left
            · intro w0 hs; have hc0 := (hs.cell (p := ⟨GD, 0, none⟩) hgl4).trans c04; clear hs; go_simp; try (with_reducible rfl)
            try simp only [Act.put, List.setIfInBounds_toArray, List.set_cons_zero, List.set_cons_succ]
            refine wpAnyH_take (i := 21) (oi := ⟨_, _, _, _, _, _⟩) (v := ?_) rfl (by kernel_rfl) (by kernel_rfl) (by kernel_rfl) (fun _ _ _ h => h) (Or.inl ⟨by rfl, ?_⟩) hS ?_
            rotate_left
            · intro w0 hs; have hc0 := (hs.cell (p := ⟨GD, 0, none⟩) hgl4).trans c04; clear hs; go_simp; try (with_reducible rfl)
            try simp only [Act.put, List.setIfInBounds_toArray, List.set_cons_zero, List.set_cons_succ]
            refine wpAnyH_take (i := 22) (oi := ⟨_, _, _, _, _, _⟩) (v := ?_) rfl (by kernel_rfl) (by kernel_rfl) (by kernel_rfl) (fun _ _ _ h => h) (Or.inl ⟨by rfl, ?_⟩) hS ?_
            rotate_left
            · intro w0 hs; have hc0 := (hs.cell (p := ⟨GD, 0, none⟩) hgl4).trans c04; clear hs; go_simp; try (with_reducible rfl)
            try simp only [Act.put, List.setIfInBounds_toArray, List.set_cons_zero, List.set_cons_succ]
            refine wpAnyH_take (i := 23) (oi := ⟨_, _, _, _, _, _⟩) (v := ?_) rfl (by kernel_rfl) (by kernel_rfl) (by kernel_rfl) (fun _ _ _ h => h) (Or.inl ⟨by rfl, ?_⟩) hS ?_
            rotate_left
            · intro w0 hs; have hc0 := (hs.cell (p := ⟨GD, 0, none⟩) hgl4).trans c04; clear hs; go_simp; try (with_reducible rfl)
            try simp only [Act.put, List.setIfInBounds_toArray, List.set_cons_zero, List.set_cons_succ]
            refine wpAnyH_take (i := 24) (oi := ⟨_, _, _, _, _, _⟩) (v := ?_) rfl (by kernel_rfl) (by kernel_rfl) (by kernel_rfl) (fun _ _ _ h => h) (Or.inl ⟨by rfl, ?_⟩) hS ?_
            rotate_left
            · intro w0 hs; have hc0 := (hs.cell (p := ⟨GD, 0, none⟩) hgl4).trans c04; clear hs; go_simp; try (with_reducible rfl)
            try simp only [Act.put, List.setIfInBounds_toArray, List.set_cons_zero, List.set_cons_succ]
            refine wpAnyH_take (i := 25) (oi := ⟨_, _, _, _, _, _⟩) (v := hv n) rfl (by kernel_rfl) (by kernel_rfl) (by kernel_rfl) (fun _ _ _ h => h) (yieldsIf_load_mid (by rfl) 26 (.tmp 71) rfl GD 1 rfl (hls n) (.array 32 5) (fun _ hs j v hv => (hs.cell (p := ⟨GD, _, none⟩) hgl4).trans (ch4 j v hv)) Try.underlying26 rfl LDI) hS ?_
            try simp only [Act.put, List.setIfInBounds_toArray, List.set_cons_zero, List.set_cons_succ]
            refine wpAnyH_take (i := 27) (oi := ⟨_, _, _, _, _, _⟩) (v := ?_) rfl (by kernel_rfl) (by kernel_rfl) (by kernel_rfl) (fun _ _ _ h => h) (Or.inl ⟨by rfl, ?_⟩) hS ?_
            rotate_left
            · intro w0 hs; have hc0 := (hs.cell (p := ⟨GD, 0, none⟩) hgl4).trans c04; clear hs; go_simp; try (with_reducible rfl)
            try simp only [Act.put, List.setIfInBounds_toArray, List.set_cons_zero, List.set_cons_succ]
            refine wpAnyH_take (i := 28) (oi := ⟨_, _, _, _, _, _⟩) (v := ?_) rfl (by kernel_rfl) (by kernel_rfl) (by kernel_rfl) (fun _ _ _ h => h) (Or.inl ⟨by rfl, ?_⟩) hS ?_
            rotate_left
            · intro w0 hs; have hc0 := (hs.cell (p := ⟨GD, 0, none⟩) hgl4).trans c04; clear hs; go_simp; try (with_reducible rfl)
            try simp only [Act.put, List.setIfInBounds_toArray, List.set_cons_zero, List.set_cons_succ]
            refine wpAnyH_take (i := 29) (oi := ⟨_, _, _, _, _, _⟩) (v := hv n) rfl (by kernel_rfl) (by kernel_rfl) (by kernel_rfl) (fun _ _ _ h => h) (yieldsIf_load_mid (by rfl) 26 (.tmp 75) rfl GD 1 rfl (hls n) (.array 32 5) (fun _ hs j v hv => (hs.cell (p := ⟨GD, _, none⟩) hgl4).trans (ch4 j v hv)) Try.underlying26 rfl LDI) hS ?_
            try simp only [Act.put, List.setIfInBounds_toArray, List.set_cons_zero, List.set_cons_succ]
            refine wpAnyH_ready (rs := [26]) (by kernel_rfl) (by simp) ?_
            refine AllReadyH.cons (o := ⟨_, _, _, _, _, _⟩) rfl (fun K hK => ?_) AllReadyH.nil
            rw [if_pos (by rfl)]
            go_step
            refine (ppeers p M2 bm o3 n _ (HV4.out.below hS) hl4 HOK.out hnn).mono ?_
            rintro e y6 ⟨va', oa', rfl, ra', -, hy6⟩
            simp only []
            refine hK.out _ _ (hS.trans (hy6.mono hS.size)) (fun hS' => ?_)
            clear hS hK
            have hS := hS'; clear hS'
            try simp only [Act.put, List.setIfInBounds_toArray, List.set_cons_zero, List.set_cons_succ]
            refine wpAnyH_ready (rs := [30]) (by kernel_rfl) (by simp) ?_
            refine AllReadyH.cons (o := ⟨_, _, _, _, _, _⟩) rfl (fun K hK => ?_) AllReadyH.nil
            rw [if_pos (by rfl)]
            go_step
            refine (qpeers q M2 o4 n _ (HQ4.out.below hS) hl4 HOK.out hnn).mono ?_
            rintro e y7 ⟨vb', ob', rfl, rb', -, hy7⟩
            simp only []
            refine hK.out _ _ (hS.trans (hy7.mono hS.size)) (fun hS' => ?_)
            clear hS hK
            have hS := hS'; clear hS'
            try simp only [Act.put, List.setIfInBounds_toArray, List.set_cons_zero, List.set_cons_succ]
            refine wpAnyH_ready (rs := [31]) (by kernel_rfl) (by simp) ?_
            refine AllReadyH.cons (o := ⟨_, _, _, _, _, _⟩) rfl (fun K hK => ?_) AllReadyH.nil
            rw [if_pos (by rfl)]
            go_step
            refine (iequal _ _ _ oa' ob' _ _ (ra'.keep (X := fun _ => False) (Keep.of_below hy7) (fun _ _ h => h)) rb' hSl).mono ?_
            rintro e y8 ⟨rfl, hy8⟩
            simp only []
            refine hK.out _ _ (hS.trans (hy8.mono hS.size)) (fun hS' => ?_)
            clear hS hK
            have hS := hS'; clear hS'
            try simp only [Act.put, List.setIfInBounds_toArray, List.set_cons_zero, List.set_cons_succ]
            refine wpAnyH_take (i := 32) (oi := ⟨_, _, _, _, _, _⟩) (v := ?_) rfl (by kernel_rfl) (by kernel_rfl) (by kernel_rfl) (fun _ _ _ h => h) (Or.inl ⟨by rfl, ?_⟩) hS ?_
            rotate_left
            · intro w0 hs; have hc0 := (hs.cell (p := ⟨GD, 0, none⟩) hgl4).trans c04; clear hs; go_simp; try (with_reducible rfl)
            try simp only [Act.put, List.setIfInBounds_toArray, List.set_cons_zero, List.set_cons_succ]
            refine wpAnyH_take (i := 33) (oi := ⟨_, _, _, _, _, _⟩) (v := ?_) rfl (by kernel_rfl) (by kernel_rfl) (by kernel_rfl) (fun _ _ _ h => h) (Or.inl ⟨by rfl, ?_⟩) hS ?_
            rotate_left
            · intro w0 hs; have hc0 := (hs.cell (p := ⟨GD, 0, none⟩) hgl4).trans c04; clear hs; go_simp; try (with_reducible rfl)
            try simp only [Act.put, List.setIfInBounds_toArray, List.set_cons_zero, List.set_cons_succ]
            refine wpAnyH_done (by kernel_rfl) ?_ _
            have HE := Lib.hid hS
            clear hS
            go_wp2
            go_roundg (len - (k + 1))
            case measure => rw [HG.out]; omega
            case rel =>
              obtain ⟨hS, ho3, ho4, hk3⟩ := H4.out
              have hsz : wC.heap.size ≤ w3.heap.size := hk3.size
              have hsz2 := HS.out.2.2.2.2.2.2.size
              have b4 := HS.out.2.2.2.2.2.2.trans (hS.below hsz2 (fun g h => (HS.out.2.2.2.2.2.1 g h).2))
              refine ⟨k + 1, hlt, by omega, rfl, rfl, M2, o3, o4, HV4.out.below HE.out, HQ4.out.below HE.out, HOK.out, hll, fun g h => ?_, fun g h => ?_, b4.trans (HE.out.mono b4.size)⟩
              · have hg3 : g < w3.heap.size := HV3.out g (.inr (.inr h))
                rcases ho3 g h with h1 | h1
                · have h5 := HS.out.2.2.1 g h1
                  refine ⟨h5.1, h5.2.1, fun e => ?_⟩
                  rcases ho4 g e with e | e
                  · exact h5.2.2 e
                  · omega
                · have h1 : wC.heap.size ≤ g := h1
                  have hql := HQ.out.lt
                  refine ⟨by omega, by omega, fun e => ?_⟩
                  rcases ho4 g e with e | e
                  · have := hql.2 g e; omega
                  · omega
              · rcases ho4 g h with e | e
                · exact HS.out.2.2.2.1 g e
                · have hvl := HV.out.lt
                  have h1 := hvl p (.inl rfl)
                  have h2 := hvl bm (.inr (.inl rfl))
                  exact ⟨by omega, by omega, by omega⟩
          | false =>
            have HB := Lib.hid hb
            clear hb
            have PL := Lib.hid (pleave_no p L bm o x wC.drew HV.out.drew hwf (by omega) HS.out.1.1 HB.out)
            go_upto_region 8 with fail
            refine wp_region_held_drew (S := fun w' => Keep (fun g => foot3 p bm o g ∨ g = q ∨ o2 = some g) wC w') (by kernel_rfl) ((Keep.refl _ _).drew) (fun hS => ?_)
            refine wpAnyH_take (i := 0) (oi := ⟨_, _, _, _, _, _⟩) (v := ?_) rfl (by kernel_rfl) (by kernel_rfl) (by kernel_rfl) (fun _ _ _ h => h) (Or.inl ⟨by rfl, ?_⟩) hS ?_
            rotate_left
            · intro w0 hs; have hc0 := (hs.cell (p := ⟨GD, 0, none⟩) hgl hgn).trans c0; clear hs; go_simp; try (with_reducible rfl)
            try simp only [Act.put, List.setIfInBounds_toArray, List.set_cons_zero, List.set_cons_succ]
            refine wpAnyH_take (i := 1) (oi := ⟨_, _, _, _, _, _⟩) (v := ?_) rfl (by kernel_rfl) (by kernel_rfl) (by kernel_rfl) (fun _ _ _ h => h) (Or.inl ⟨by rfl, ?_⟩) hS ?_
            rotate_left
            · intro w0 hs; have hc0 := (hs.cell (p := ⟨GD, 0, none⟩) hgl hgn).trans c0; clear hs; go_simp; try (with_reducible rfl)
            try simp only [Act.put, List.setIfInBounds_toArray, List.set_cons_zero, List.set_cons_succ]
            refine wpAnyH_take (i := 2) (oi := ⟨_, _, _, _, _, _⟩) (v := ?_) rfl (by kernel_rfl) (by kernel_rfl) (by kernel_rfl) (fun _ _ _ h => h) (Or.inl ⟨by rfl, ?_⟩) hS ?_
            rotate_left
            · intro w0 hs; have hc0 := (hs.cell (p := ⟨GD, 0, none⟩) hgl hgn).trans c0; clear hs; go_simp; try (with_reducible rfl)
            try simp only [Act.put, List.setIfInBounds_toArray, List.set_cons_zero, List.set_cons_succ]
            refine wpAnyH_take (i := 4) (oi := ⟨_, _, _, _, _, _⟩) (v := ?_) rfl (by kernel_rfl) (by kernel_rfl) (by kernel_rfl) (fun _ _ _ h => h) (Or.inl ⟨by rfl, ?_⟩) hS ?_
            rotate_left
            · intro w0 hs; have hc0 := (hs.cell (p := ⟨GD, 0, none⟩) hgl hgn).trans c0; clear hs; go_simp; try (with_reducible rfl)
            try simp only [Act.put, List.setIfInBounds_toArray, List.set_cons_zero, List.set_cons_succ]
            refine wpAnyH_take (i := 5) (oi := ⟨_, _, _, _, _, _⟩) (v := ?_) rfl (by kernel_rfl) (by kernel_rfl) (by kernel_rfl) (fun _ _ _ h => h) (Or.inl ⟨by rfl, ?_⟩) hS ?_
            rotate_left
            · intro w0 hs; have hc0 := (hs.cell (p := ⟨GD, 0, none⟩) hgl hgn).trans c0; clear hs; go_simp; try (with_reducible rfl)
            try simp only [Act.put, List.setIfInBounds_toArray, List.set_cons_zero, List.set_cons_succ]
            refine wpAnyH_take (i := 6) (oi := ⟨_, _, _, _, _, _⟩) (v := ?_) rfl (by kernel_rfl) (by kernel_rfl) (by kernel_rfl) (fun _ _ _ h => h) (Or.inl ⟨by rfl, ?_⟩) hS ?_
            rotate_left
            · intro w0 hs; have hc0 := (hs.cell (p := ⟨GD, 0, none⟩) hgl hgn).trans c0; clear hs; go_simp; try (with_reducible rfl)
            try simp only [Act.put, List.setIfInBounds_toArray, List.set_cons_zero, List.set_cons_succ]
            refine wpAnyH_ready (rs := [3]) (by kernel_rfl) (by simp) ?_
            refine AllReadyH.cons (o := ⟨_, _, _, _, _, _⟩) rfl (fun K hK => ?_) AllReadyH.nil
            rw [if_pos (by rfl)]
            go_step
            refine PL.out.mono ?_
            rintro e w3 ⟨rfl, o3, hv3, ho3, hk3⟩
            have HQ3 := Lib.hid ((HQ.out.below ((Below.refl _ _).drew)).keep hk3 (fun h => (HS.out.2.2.2.2.1 _ h).2.1 rfl) (fun g hg h => (HS.out.2.2.2.2.1 _ h).2.2 hg))
            simp only []
            refine hK.out _ _ ((Keep.refl _ wC).drew.trans (hk3.mono fun _ h => .inl h)) (fun hS' => ?_)
            clear hS hK
            have hS := hS'; clear hS'
            try simp only [Act.put, List.setIfInBounds_toArray, List.set_cons_zero, List.set_cons_succ]
            refine wpAnyH_ready (rs := [7]) (by kernel_rfl) (by simp) ?_
            refine AllReadyH.cons (o := ⟨_, _, _, _, _, _⟩) rfl (fun K hK => ?_) AllReadyH.nil
            rw [if_pos (by rfl)]
            go_step
            refine (qleave_no q L o2 x w3 HQ3.out (by omega) HB.out).mono ?_
            rintro e w4 ⟨rfl, o4, hq4, ho4, hk4⟩
            simp only []
            refine hK.out _ _ (hS.trans' hk4 (fun _ h => .inl (.inr h))) (fun hS' => ?_)
            clear hS hK
            have hS := hS'; clear hS'
            try simp only [Act.put, List.setIfInBounds_toArray, List.set_cons_zero, List.set_cons_succ]
            refine wpAnyH_take (i := 8) (oi := ⟨_, _, _, _, _, _⟩) (v := ?_) rfl (by kernel_rfl) (by kernel_rfl) (by kernel_rfl) (fun _ _ _ h => h) (Or.inl ⟨by rfl, ?_⟩) hS ?_
            rotate_left
            · intro w0 hs; have hc0 := (hs.cell (p := ⟨GD, 0, none⟩) hgl hgn).trans c0; clear hs; go_simp; try (with_reducible rfl)
            try simp only [Act.put, List.setIfInBounds_toArray, List.set_cons_zero, List.set_cons_succ]
            refine wpAnyH_take (i := 9) (oi := ⟨_, _, _, _, _, _⟩) (v := ?_) rfl (by kernel_rfl) (by kernel_rfl) (by kernel_rfl) (fun _ _ _ h => h) (Or.inl ⟨by rfl, ?_⟩) hS ?_
            rotate_left
            · intro w0 hs; have hc0 := (hs.cell (p := ⟨GD, 0, none⟩) hgl hgn).trans c0; clear hs; go_simp; try (with_reducible rfl)
            try simp only [Act.put, List.setIfInBounds_toArray, List.set_cons_zero, List.set_cons_succ]
            refine wpAnyH_done (by kernel_rfl) ?_ _
            have hV4 : VAt w4 p (vdel L x) bm o3 := hv3.keep hk4 (fun g h e => by
              have hold : g < wC.heap.size := by
                rcases e with rfl | e
                · exact HQ.out.lt.1
                · exact HQ.out.lt.2 g e
              rcases h with rfl | rfl | h
              · rcases e with e | e
                · exact hqp e.symm
                · exact (HS.out.2.2.2.1 _ e).2.1 rfl
              · rcases e with e | e
                · exact hqb e.symm
                · exact (HS.out.2.2.2.1 _ e).2.2 rfl
              · rcases ho3 g h with h | h
                · rcases e with e | e
                  · exact (HS.out.2.2.1 g h).2.1 e
                  · exact (HS.out.2.2.1 g h).2.2 e
                · have h : wC.heap.size ≤ g := h
                  omega)
            have HV4 := Lib.hid hV4
            have HV3 := Lib.hid hv3.lt
            have HQ4 := Lib.hid hq4
            have hgl4 : GD < w4.heap.size := Nat.lt_of_lt_of_le hgl hS.size
            have c04 := (hS.cell (p := ⟨GD, 0, none⟩) hgl hgn).trans c0
            have ch4 : w4.rangeAt GD 1 (hls n) := fun j v hv => (hS.cell (p := ⟨GD, _, none⟩) hgl hgn).trans (ch j v hv)
            have hll : (vdel L x).length ≤ k + 1 := by have := vdel_le L x; omega
            have HOK := Lib.hid (VL.ok_del HS.out.1 x)
            have HC := Lib.hid (show vhas (vdel L x) x = false from by rw [vhas_del]; simp)
            clear hv3 hq4 hV4
            generalize (vdel L x) = M2 at HV4 HQ4 hll HOK HC
            have hl4 : M2.length ≤ 10000 := by omega
            have HMW := Lib.hid (show ∀ y ∈ once (M2.map Prod.snd), y < W256 from fun y hy => by
              rw [once_mem] at hy
              obtain ⟨e, he, rfl⟩ := List.mem_map.1 hy
              exact (HOK.out.2 e he).2)
            have hMl : (once (M2.map Prod.snd)).length ≤ 1000000 := by
              refine Nat.le_trans (once_len _) ?_; rw [List.length_map]; omega
            have hSl : (saidBy M2 n).length ≤ 10000 := Nat.le_trans (saidBy_len _ _) hl4
            have H4 := Lib.hid (And.intro hS (And.intro ho3 (And.intro ho4 hk3)))
            skip
            clear hS ho3 ho4 hk3 hk4 PL HQ3 c0 ch c33 hgn
            go_upto_region 10 with fail
            refine wp_region_held_drew (S := fun w' => Below w4.heap.size w4 w') (by kernel_rfl) ((Below.refl _ _).drew) (fun hS => ?_)
            refine wpAnyH_take (i := 0) (oi := ⟨_, _, _, _, _, _⟩) (v := ?_) rfl (by kernel_rfl) (by kernel_rfl) (by kernel_rfl) (fun _ _ _ h => h) (Or.inl ⟨by rfl, ?_⟩) hS ?_
            rotate_left
            · intro w0 hs; have hc0 := (hs.cell (p := ⟨GD, 0, none⟩) hgl4).trans c04; clear hs; go_simp; try (with_reducible rfl)
            try simp only [Act.put, List.setIfInBounds_toArray, List.set_cons_zero, List.set_cons_succ]
            refine wpAnyH_take (i := 1) (oi := ⟨_, _, _, _, _, _⟩) (v := ?_) rfl (by kernel_rfl) (by kernel_rfl) (by kernel_rfl) (fun _ _ _ h => h) (Or.inl ⟨by rfl, ?_⟩) hS ?_
            rotate_left
            · intro w0 hs; have hc0 := (hs.cell (p := ⟨GD, 0, none⟩) hgl4).trans c04; clear hs; go_simp; try (with_reducible rfl)
            try simp only [Act.put, List.setIfInBounds_toArray, List.set_cons_zero, List.set_cons_succ]
            refine wpAnyH_take (i := 2) (oi := ⟨_, _, _, _, _, _⟩) (v := ?_) rfl (by kernel_rfl) (by kernel_rfl) (by kernel_rfl) (fun _ _ _ h => h) (Or.inl ⟨by rfl, ?_⟩) hS ?_
            rotate_left
            · intro w0 hs; have hc0 := (hs.cell (p := ⟨GD, 0, none⟩) hgl4).trans c04; clear hs; go_simp; try (with_reducible rfl)
            try simp only [Act.put, List.setIfInBounds_toArray, List.set_cons_zero, List.set_cons_succ]
            refine wpAnyH_take (i := 3) (oi := ⟨_, _, _, _, _, _⟩) (v := ?_) rfl (by kernel_rfl) (by kernel_rfl) (by kernel_rfl) (fun _ _ _ h => h) (Or.inl ⟨by rfl, ?_⟩) hS ?_
            rotate_left
            · intro w0 hs; have hc0 := (hs.cell (p := ⟨GD, 0, none⟩) hgl4).trans c04; clear hs; go_simp; try (with_reducible rfl)
            try simp only [Act.put, List.setIfInBounds_toArray, List.set_cons_zero, List.set_cons_succ]
            refine wpAnyH_take (i := 4) (oi := ⟨_, _, _, _, _, _⟩) (v := ?_) rfl (by kernel_rfl) (by kernel_rfl) (by kernel_rfl) (fun _ _ _ h => h) (Or.inl ⟨by rfl, ?_⟩) hS ?_
            rotate_left
            · intro w0 hs; have hc0 := (hs.cell (p := ⟨GD, 0, none⟩) hgl4).trans c04; clear hs; go_simp; try (with_reducible rfl)
            try simp only [Act.put, List.setIfInBounds_toArray, List.set_cons_zero, List.set_cons_succ]
            refine wpAnyH_take (i := 5) (oi := ⟨_, _, _, _, _, _⟩) (v := ?_) rfl (by kernel_rfl) (by kernel_rfl) (by kernel_rfl) (fun _ _ _ h => h) (Or.inl ⟨by rfl, ?_⟩) hS ?_
            rotate_left
            · intro w0 hs; have hc0 := (hs.cell (p := ⟨GD, 0, none⟩) hgl4).trans c04; clear hs; go_simp; try (with_reducible rfl)
            try simp only [Act.put, List.setIfInBounds_toArray, List.set_cons_zero, List.set_cons_succ]
            refine wpAnyH_take (i := 6) (oi := ⟨_, _, _, _, _, _⟩) (v := ?_) rfl (by kernel_rfl) (by kernel_rfl) (by kernel_rfl) (fun _ _ _ h => h) (Or.inl ⟨by rfl, ?_⟩) hS ?_
            rotate_left
            · intro w0 hs; have hc0 := (hs.cell (p := ⟨GD, 0, none⟩) hgl4).trans c04; clear hs; go_simp; try (with_reducible rfl)
            try simp only [Act.put, List.setIfInBounds_toArray, List.set_cons_zero, List.set_cons_succ]
            refine wpAnyH_take (i := 8) (oi := ⟨_, _, _, _, _, _⟩) (v := ?_) rfl (by kernel_rfl) (by kernel_rfl) (by kernel_rfl) (fun _ _ _ h => h) (Or.inl ⟨by rfl, ?_⟩) hS ?_
            rotate_left
            · intro w0 hs; have hc0 := (hs.cell (p := ⟨GD, 0, none⟩) hgl4).trans c04; clear hs; go_simp; try (with_reducible rfl)
            try simp only [Act.put, List.setIfInBounds_toArray, List.set_cons_zero, List.set_cons_succ]
            refine wpAnyH_take (i := 9) (oi := ⟨_, _, _, _, _, _⟩) (v := ?_) rfl (by kernel_rfl) (by kernel_rfl) (by kernel_rfl) (fun _ _ _ h => h) (Or.inl ⟨by rfl, ?_⟩) hS ?_
            rotate_left
            · intro w0 hs; have hc0 := (hs.cell (p := ⟨GD, 0, none⟩) hgl4).trans c04; clear hs; go_simp; try (with_reducible rfl)
            try simp only [Act.put, List.setIfInBounds_toArray, List.set_cons_zero, List.set_cons_succ]
            refine wpAnyH_take (i := 10) (oi := ⟨_, _, _, _, _, _⟩) (v := ?_) rfl (by kernel_rfl) (by kernel_rfl) (by kernel_rfl) (fun _ _ _ h => h) (Or.inl ⟨by rfl, ?_⟩) hS ?_
            rotate_left
            · intro w0 hs; have hc0 := (hs.cell (p := ⟨GD, 0, none⟩) hgl4).trans c04; clear hs; go_simp; try (with_reducible rfl)
            try simp only [Act.put, List.setIfInBounds_toArray, List.set_cons_zero, List.set_cons_succ]
            refine wpAnyH_ready (rs := [7]) (by kernel_rfl) (by simp) ?_
            refine AllReadyH.cons (o := ⟨_, _, _, _, _, _⟩) rfl (fun K hK => ?_) AllReadyH.nil
            rw [if_pos (by rfl)]
            go_step
            have PA := phas p M2 bm o3 x _ (HV4.out.below hS) hwf
            rw [HC.out] at PA
            refine PA.mono ?_
            rintro e y1 ⟨rfl, hy1⟩
            simp only []
            refine hK.out _ _ (hS.trans (hy1.mono hS.size)) (fun hS' => ?_)
            clear hS hK
            have hS := hS'; clear hS'
            try simp only [Act.put, List.setIfInBounds_toArray, List.set_cons_zero, List.set_cons_succ]
            refine wpAnyH_ready (rs := [11]) (by kernel_rfl) (by simp) ?_
            refine AllReadyH.cons (o := ⟨_, _, _, _, _, _⟩) rfl (fun K hK => ?_) AllReadyH.nil
            rw [if_pos (by rfl)]
            go_step
            have PA := qhas q M2 o4 x _ (HQ4.out.below hS) hl4
            rw [HC.out] at PA
            refine PA.mono ?_
            rintro e y2 ⟨rfl, hy2⟩
            simp only []
            refine hK.out _ _ (hS.trans (hy2.mono hS.size)) (fun hS' => ?_)
            clear hS hK
            have hS := hS'; clear hS'
            try simp only [Act.put, List.setIfInBounds_toArray, List.set_cons_zero, List.set_cons_succ]
            refine wpAnyH_take (i := 12) (oi := ⟨_, _, _, _, _, _⟩) (v := ?_) rfl (by kernel_rfl) (by kernel_rfl) (by kernel_rfl) (fun _ _ _ h => h) (Or.inl ⟨by rfl, ?_⟩) hS ?_
            rotate_left
            · intro w0 hs; have hc0 := (hs.cell (p := ⟨GD, 0, none⟩) hgl4).trans c04; clear hs; go_simp; try (with_reducible rfl)
            try simp only [Act.put, List.setIfInBounds_toArray, List.set_cons_zero, List.set_cons_succ]
            refine wpAnyH_take (i := 13) (oi := ⟨_, _, _, _, _, _⟩) (v := ?_) rfl (by kernel_rfl) (by kernel_rfl) (by kernel_rfl) (fun _ _ _ h => h) (Or.inl ⟨by rfl, ?_⟩) hS ?_
            rotate_left
            · intro w0 hs; have hc0 := (hs.cell (p := ⟨GD, 0, none⟩) hgl4).trans c04; clear hs; go_simp; try (with_reducible rfl)
            try simp only [Act.put, List.setIfInBounds_toArray, List.set_cons_zero, List.set_cons_succ]
            refine wpAnyH_take (i := 14) (oi := ⟨_, _, _, _, _, _⟩) (v := ?_) rfl (by kernel_rfl) (by kernel_rfl) (by kernel_rfl) (fun _ _ _ h => h) (Or.inl ⟨by rfl, ?_⟩) hS ?_
            rotate_left
            · intro w0 hs; have hc0 := (hs.cell (p := ⟨GD, 0, none⟩) hgl4).trans c04; clear hs; go_simp; try (with_reducible rfl)
            try simp only [Act.put, List.setIfInBounds_toArray, List.set_cons_zero, List.set_cons_succ]
            refine wpAnyH_take (i := 15) (oi := ⟨_, _, _, _, _, _⟩) (v := ?_) rfl (by kernel_rfl) (by kernel_rfl) (by kernel_rfl) (fun _ _ _ h => h) (Or.inl ⟨by rfl, ?_⟩) hS ?_
            rotate_left
            · intro w0 hs; have hc0 := (hs.cell (p := ⟨GD, 0, none⟩) hgl4).trans c04; clear hs; go_simp; try (with_reducible rfl)
            try simp only [Act.put, List.setIfInBounds_toArray, List.set_cons_zero, List.set_cons_succ]
            refine wpAnyH_take (i := 17) (oi := ⟨_, _, _, _, _, _⟩) (v := ?_) rfl (by kernel_rfl) (by kernel_rfl) (by kernel_rfl) (fun _ _ _ h => h) (Or.inl ⟨by rfl, ?_⟩) hS ?_
            rotate_left
            · intro w0 hs; have hc0 := (hs.cell (p := ⟨GD, 0, none⟩) hgl4).trans c04; clear hs; go_simp; try (with_reducible rfl)
            try simp only [Act.put, List.setIfInBounds_toArray, List.set_cons_zero, List.set_cons_succ]
            refine wpAnyH_ready (rs := [16]) (by kernel_rfl) (by simp) ?_
            refine AllReadyH.cons (o := ⟨_, _, _, _, _, _⟩) rfl (fun K hK => ?_) AllReadyH.nil
            rw [if_pos (by rfl)]
            go_step
            refine (psums p M2 bm o3 _ (HV4.out.below hS) hl4 HOK.out).mono ?_
            rintro e y3 ⟨va, oa, rfl, ra, -, hy3⟩
            obtain ⟨qa, ca, rfl, ia⟩ := HsIn.of_row ra HMW.out
            clear ra
            simp only []
            refine hK.out _ _ (hS.trans (hy3.mono hS.size)) (fun hS' => ?_)
            clear hS hK
            have hS := hS'; clear hS'
            try simp only [Act.put, List.setIfInBounds_toArray, List.set_cons_zero, List.set_cons_succ]
            refine wpAnyH_ready (rs := [18]) (by kernel_rfl) (by simp) ?_
            refine AllReadyH.cons (o := ⟨_, _, _, _, _, _⟩) rfl (fun K hK => ?_) AllReadyH.nil
            rw [if_pos (by rfl)]
            go_step
            refine (qsums q M2 o4 _ (HQ4.out.below hS) hl4 HOK.out).mono ?_
            rintro e y4 ⟨vb, ob, rfl, rb, -, hy4⟩
            obtain ⟨qb, cb, rfl, ib⟩ := HsIn.of_row rb HMW.out
            clear rb
            simp only []
            refine hK.out _ _ (hS.trans (hy4.mono hS.size)) (fun hS' => ?_)
            clear hS hK
            have hS := hS'; clear hS'
            try simp only [Act.put, List.setIfInBounds_toArray, List.set_cons_zero, List.set_cons_succ]
            refine wpAnyH_ready (rs := [19]) (by kernel_rfl) (by simp) ?_
            refine AllReadyH.cons (o := ⟨_, _, _, _, _, _⟩) rfl (fun K hK => ?_) AllReadyH.nil
            rw [if_pos (by rfl)]
            go_step
            refine (hequal qa qb _ ca cb _ _ (ia.below hy4) ib hMl).mono ?_
            rintro e y5 ⟨rfl, hy5⟩
            simp only []
            refine hK.out _ _ (hS.trans (hy5.mono hS.size)) (fun hS' => ?_)
            clear hS hK
            have hS := hS'; clear hS'
            try simp only [Act.put, List.setIfInBounds_toArray, List.set_cons_zero, List.set_cons_succ]
            refine wpAnyH_take (i := 20) (oi := ⟨_, _, _, _, _, _⟩) (v := ?_) rfl (by kernel_rfl) (by kernel_rfl) (by kernel_rfl) (fun _ _ _ h => h) (Or.inl ⟨by rfl, ?_⟩) hS ?_
            rotate_left
            · intro w0 hs; have hc0 := (hs.cell (p := ⟨GD, 0, none⟩) hgl4).trans c04; clear hs; go_simp; try (with_reducible rfl)
            try simp only [Act.put, List.setIfInBounds_toArray, List.set_cons_zero, List.set_cons_succ]
            refine wpAnyH_take (i := 21) (oi := ⟨_, _, _, _, _, _⟩) (v := ?_) rfl (by kernel_rfl) (by kernel_rfl) (by kernel_rfl) (fun _ _ _ h => h) (Or.inl ⟨by rfl, ?_⟩) hS ?_
            rotate_left
            · intro w0 hs; have hc0 := (hs.cell (p := ⟨GD, 0, none⟩) hgl4).trans c04; clear hs; go_simp; try (with_reducible rfl)
            try simp only [Act.put, List.setIfInBounds_toArray, List.set_cons_zero, List.set_cons_succ]
            refine wpAnyH_take (i := 22) (oi := ⟨_, _, _, _, _, _⟩) (v := ?_) rfl (by kernel_rfl) (by kernel_rfl) (by kernel_rfl) (fun _ _ _ h => h) (Or.inl ⟨by rfl, ?_⟩) hS ?_
            rotate_left
            · intro w0 hs; have hc0 := (hs.cell (p := ⟨GD, 0, none⟩) hgl4).trans c04; clear hs; go_simp; try (with_reducible rfl)
            try simp only [Act.put, List.setIfInBounds_toArray, List.set_cons_zero, List.set_cons_succ]
            refine wpAnyH_take (i := 23) (oi := ⟨_, _, _, _, _, _⟩) (v := ?_) rfl (by kernel_rfl) (by kernel_rfl) (by kernel_rfl) (fun _ _ _ h => h) (Or.inl ⟨by rfl, ?_⟩) hS ?_
            rotate_left
            · intro w0 hs; have hc0 := (hs.cell (p := ⟨GD, 0, none⟩) hgl4).trans c04; clear hs; go_simp; try (with_reducible rfl)
            try simp only [Act.put, List.setIfInBounds_toArray, List.set_cons_zero, List.set_cons_succ]
            refine wpAnyH_take (i := 24) (oi := ⟨_, _, _, _, _, _⟩) (v := ?_) rfl (by kernel_rfl) (by kernel_rfl) (by kernel_rfl) (fun _ _ _ h => h) (Or.inl ⟨by rfl, ?_⟩) hS ?_
            rotate_left
            · intro w0 hs; have hc0 := (hs.cell (p := ⟨GD, 0, none⟩) hgl4).trans c04; clear hs; go_simp; try (with_reducible rfl)
            try simp only [Act.put, List.setIfInBounds_toArray, List.set_cons_zero, List.set_cons_succ]
            refine wpAnyH_take (i := 25) (oi := ⟨_, _, _, _, _, _⟩) (v := hv n) rfl (by kernel_rfl) (by kernel_rfl) (by kernel_rfl) (fun _ _ _ h => h) (yieldsIf_load_mid (by rfl) 26 (.tmp 71) rfl GD 1 rfl (hls n) (.array 32 5) (fun _ hs j v hv => (hs.cell (p := ⟨GD, _, none⟩) hgl4).trans (ch4 j v hv)) Try.underlying26 rfl LDI) hS ?_
            try simp only [Act.put, List.setIfInBounds_toArray, List.set_cons_zero, List.set_cons_succ]
            refine wpAnyH_take (i := 27) (oi := ⟨_, _, _, _, _, _⟩) (v := ?_) rfl (by kernel_rfl) (by kernel_rfl) (by kernel_rfl) (fun _ _ _ h => h) (Or.inl ⟨by rfl, ?_⟩) hS ?_
            rotate_left
            · intro w0 hs; have hc0 := (hs.cell (p := ⟨GD, 0, none⟩) hgl4).trans c04; clear hs; go_simp; try (with_reducible rfl)
            try simp only [Act.put, List.setIfInBounds_toArray, List.set_cons_zero, List.set_cons_succ]
            refine wpAnyH_take (i := 28) (oi := ⟨_, _, _, _, _, _⟩) (v := ?_) rfl (by kernel_rfl) (by kernel_rfl) (by kernel_rfl) (fun _ _ _ h => h) (Or.inl ⟨by rfl, ?_⟩) hS ?_
            rotate_left
            · intro w0 hs; have hc0 := (hs.cell (p := ⟨GD, 0, none⟩) hgl4).trans c04; clear hs; go_simp; try (with_reducible rfl)
            try simp only [Act.put, List.setIfInBounds_toArray, List.set_cons_zero, List.set_cons_succ]
            refine wpAnyH_take (i := 29) (oi := ⟨_, _, _, _, _, _⟩) (v := hv n) rfl (by kernel_rfl) (by kernel_rfl) (by kernel_rfl) (fun _ _ _ h => h) (yieldsIf_load_mid (by rfl) 26 (.tmp 75) rfl GD 1 rfl (hls n) (.array 32 5) (fun _ hs j v hv => (hs.cell (p := ⟨GD, _, none⟩) hgl4).trans (ch4 j v hv)) Try.underlying26 rfl LDI) hS ?_
            try simp only [Act.put, List.setIfInBounds_toArray, List.set_cons_zero, List.set_cons_succ]
            refine wpAnyH_ready (rs := [26]) (by kernel_rfl) (by simp) ?_
            refine AllReadyH.cons (o := ⟨_, _, _, _, _, _⟩) rfl (fun K hK => ?_) AllReadyH.nil
            rw [if_pos (by rfl)]
            go_step
            refine (ppeers p M2 bm o3 n _ (HV4.out.below hS) hl4 HOK.out hnn).mono ?_
            rintro e y6 ⟨va', oa', rfl, ra', -, hy6⟩
            simp only []
            refine hK.out _ _ (hS.trans (hy6.mono hS.size)) (fun hS' => ?_)
            clear hS hK
            have hS := hS'; clear hS'
            try simp only [Act.put, List.setIfInBounds_toArray, List.set_cons_zero, List.set_cons_succ]
            refine wpAnyH_ready (rs := [30]) (by kernel_rfl) (by simp) ?_
            refine AllReadyH.cons (o := ⟨_, _, _, _, _, _⟩) rfl (fun K hK => ?_) AllReadyH.nil
            rw [if_pos (by rfl)]
            go_step
            refine (qpeers q M2 o4 n _ (HQ4.out.below hS) hl4 HOK.out hnn).mono ?_
            rintro e y7 ⟨vb', ob', rfl, rb', -, hy7⟩
            simp only []
            refine hK.out _ _ (hS.trans (hy7.mono hS.size)) (fun hS' => ?_)
            clear hS hK
            have hS := hS'; clear hS'
            try simp only [Act.put, List.setIfInBounds_toArray, List.set_cons_zero, List.set_cons_succ]
            refine wpAnyH_ready (rs := [31]) (by kernel_rfl) (by simp) ?_
            refine AllReadyH.cons (o := ⟨_, _, _, _, _, _⟩) rfl (fun K hK => ?_) AllReadyH.nil
            rw [if_pos (by rfl)]
            go_step
            refine (iequal _ _ _ oa' ob' _ _ (ra'.keep (X := fun _ => False) (Keep.of_below hy7) (fun _ _ h => h)) rb' hSl).mono ?_
            rintro e y8 ⟨rfl, hy8⟩
            simp only []
            refine hK.out _ _ (hS.trans (hy8.mono hS.size)) (fun hS' => ?_)
            clear hS hK
            have hS := hS'; clear hS'
            try simp only [Act.put, List.setIfInBounds_toArray, List.set_cons_zero, List.set_cons_succ]
            refine wpAnyH_take (i := 32) (oi := ⟨_, _, _, _, _, _⟩) (v := ?_) rfl (by kernel_rfl) (by kernel_rfl) (by kernel_rfl) (fun _ _ _ h => h) (Or.inl ⟨by rfl, ?_⟩) hS ?_
            rotate_left
            · intro w0 hs; have hc0 := (hs.cell (p := ⟨GD, 0, none⟩) hgl4).trans c04; clear hs; go_simp; try (with_reducible rfl)
            try simp only [Act.put, List.setIfInBounds_toArray, List.set_cons_zero, List.set_cons_succ]
            refine wpAnyH_take (i := 33) (oi := ⟨_, _, _, _, _, _⟩) (v := ?_) rfl (by kernel_rfl) (by kernel_rfl) (by kernel_rfl) (fun _ _ _ h => h) (Or.inl ⟨by rfl, ?_⟩) hS ?_
            rotate_left
            · intro w0 hs; have hc0 := (hs.cell (p := ⟨GD, 0, none⟩) hgl4).trans c04; clear hs; go_simp; try (with_reducible rfl)
            try simp only [Act.put, List.setIfInBounds_toArray, List.set_cons_zero, List.set_cons_succ]
            refine wpAnyH_done (by kernel_rfl) ?_ _
            have HE := Lib.hid hS
            clear hS
            go_wp2
            go_roundg (len - (k + 1))
            case measure => rw [HG.out]; omega
            case rel =>
              obtain ⟨hS, ho3, ho4, hk3⟩ := H4.out
              have hsz : wC.heap.size ≤ w3.heap.size := hk3.size
              have hsz2 := HS.out.2.2.2.2.2.2.size
              have b4 := HS.out.2.2.2.2.2.2.trans (hS.below hsz2 (fun g h => (HS.out.2.2.2.2.2.1 g h).2))
              refine ⟨k + 1, hlt, by omega, rfl, rfl, M2, o3, o4, HV4.out.below HE.out, HQ4.out.below HE.out, HOK.out, hll, fun g h => ?_, fun g h => ?_, b4.trans (HE.out.mono b4.size)⟩
              · have hg3 : g < w3.heap.size := HV3.out g (.inr (.inr h))
                rcases ho3 g h with h1 | h1
                · have h5 := HS.out.2.2.1 g h1
                  refine ⟨h5.1, h5.2.1, fun e => ?_⟩
                  rcases ho4 g e with e | e
                  · exact h5.2.2 e
                  · omega
                · have h1 : wC.heap.size ≤ g := h1
                  have hql := HQ.out.lt
                  refine ⟨by omega, by omega, fun e => ?_⟩
                  rcases ho4 g e with e | e
                  · have := hql.2 g e; omega
                  · omega
              · rcases ho4 g h with e | e
                · exact HS.out.2.2.2.1 g e
                · have hvl := HV.out.lt
                  have h1 := hvl p (.inl rfl)
                  have h2 := hvl bm (.inr (.inl rfl))
                  exact ⟨by omega, by omega, by omega⟩
        | false =>
          cases hb : vhas L x with
          | true =>
            have HB := Lib.hid hb
            clear hb
            have PL := Lib.hid (pvote_yes p L bm o x n wC.drew HV.out.drew hwf (by omega) HB.out)
            go_upto_region 9 with fail
            refine wp_region_held_drew (S := fun w' => Keep (fun g => foot3 p bm o g ∨ g = q ∨ o2 = some g) wC w') (by kernel_rfl) ((Keep.refl _ _).drew) (fun hS => ?_)
            refine wpAnyH_take (i := 0) (oi := ⟨_, _, _, _, _, _⟩) (v := ?_) rfl (by kernel_rfl) (by kernel_rfl) (by kernel_rfl) (fun _ _ _ h => h) (Or.inl ⟨by rfl, ?_⟩) hS ?_
            rotate_left
            · intro w0 hs; have hc0 := (hs.cell (p := ⟨GD, 0, none⟩) hgl hgn).trans c0; clear hs; go_simp; try (with_reducible rfl)
            try simp only [Act.put, List.setIfInBounds_toArray, List.set_cons_zero, List.set_cons_succ]
            refine wpAnyH_take (i := 1) (oi := ⟨_, _, _, _, _, _⟩) (v := ?_) rfl (by kernel_rfl) (by kernel_rfl) (by kernel_rfl) (fun _ _ _ h => h) (Or.inl ⟨by rfl, ?_⟩) hS ?_
            rotate_left
            · intro w0 hs; have hc0 := (hs.cell (p := ⟨GD, 0, none⟩) hgl hgn).trans c0; clear hs; go_simp; try (with_reducible rfl)
            try simp only [Act.put, List.setIfInBounds_toArray, List.set_cons_zero, List.set_cons_succ]
            refine wpAnyH_take (i := 2) (oi := ⟨_, _, _, _, _, _⟩) (v := ?_) rfl (by kernel_rfl) (by kernel_rfl) (by kernel_rfl) (fun _ _ _ h => h) (Or.inl ⟨by rfl, ?_⟩) hS ?_
            rotate_left
            · intro w0 hs; have hc0 := (hs.cell (p := ⟨GD, 0, none⟩) hgl hgn).trans c0; clear hs; go_simp; try (with_reducible rfl)
            try simp only [Act.put, List.setIfInBounds_toArray, List.set_cons_zero, List.set_cons_succ]
            refine wpAnyH_take (i := 3) (oi := ⟨_, _, _, _, _, _⟩) (v := ?_) rfl (by kernel_rfl) (by kernel_rfl) (by kernel_rfl) (fun _ _ _ h => h) (Or.inl ⟨by rfl, ?_⟩) hS ?_
            rotate_left
            · intro w0 hs; have hc0 := (hs.cell (p := ⟨GD, 0, none⟩) hgl hgn).trans c0; clear hs; go_simp; try (with_reducible rfl)
            try simp only [Act.put, List.setIfInBounds_toArray, List.set_cons_zero, List.set_cons_succ]
            refine wpAnyH_take (i := 4) (oi := ⟨_, _, _, _, _, _⟩) (v := hv n) rfl (by kernel_rfl) (by kernel_rfl) (by kernel_rfl) (fun _ _ _ h => h) (yieldsIf_load_mid (by rfl) 26 (.tmp 38) rfl GD 1 rfl (hls n) (.array 32 5) (fun _ hs j v hv => (hs.cell (p := ⟨GD, _, none⟩) hgl hgn).trans (ch j v hv)) Try.underlying26 rfl LDI) hS ?_
            try simp only [Act.put, List.setIfInBounds_toArray, List.set_cons_zero, List.set_cons_succ]
            refine wpAnyH_take (i := 6) (oi := ⟨_, _, _, _, _, _⟩) (v := ?_) rfl (by kernel_rfl) (by kernel_rfl) (by kernel_rfl) (fun _ _ _ h => h) (Or.inl ⟨by rfl, ?_⟩) hS ?_
            rotate_left
            · intro w0 hs; have hc0 := (hs.cell (p := ⟨GD, 0, none⟩) hgl hgn).trans c0; clear hs; go_simp; try (with_reducible rfl)
            try simp only [Act.put, List.setIfInBounds_toArray, List.set_cons_zero, List.set_cons_succ]
            refine wpAnyH_take (i := 7) (oi := ⟨_, _, _, _, _, _⟩) (v := ?_) rfl (by kernel_rfl) (by kernel_rfl) (by kernel_rfl) (fun _ _ _ h => h) (Or.inl ⟨by rfl, ?_⟩) hS ?_
            rotate_left
            · intro w0 hs; have hc0 := (hs.cell (p := ⟨GD, 0, none⟩) hgl hgn).trans c0; clear hs; go_simp; try (with_reducible rfl)
            try simp only [Act.put, List.setIfInBounds_toArray, List.set_cons_zero, List.set_cons_succ]
            refine wpAnyH_take (i := 8) (oi := ⟨_, _, _, _, _, _⟩) (v := ?_) rfl (by kernel_rfl) (by kernel_rfl) (by kernel_rfl) (fun _ _ _ h => h) (Or.inl ⟨by rfl, ?_⟩) hS ?_
            rotate_left
            · intro w0 hs; have hc0 := (hs.cell (p := ⟨GD, 0, none⟩) hgl hgn).trans c0; clear hs; go_simp; try (with_reducible rfl)
            try simp only [Act.put, List.setIfInBounds_toArray, List.set_cons_zero, List.set_cons_succ]
            refine wpAnyH_take (i := 9) (oi := ⟨_, _, _, _, _, _⟩) (v := ?_) rfl (by kernel_rfl) (by kernel_rfl) (by kernel_rfl) (fun _ _ _ h => h) (Or.inl ⟨by rfl, ?_⟩) hS ?_
            rotate_left
            · intro w0 hs; have hc0 := (hs.cell (p := ⟨GD, 0, none⟩) hgl hgn).trans c0; clear hs; go_simp; try (with_reducible rfl)
            try simp only [Act.put, List.setIfInBounds_toArray, List.set_cons_zero, List.set_cons_succ]
            refine wpAnyH_take (i := 10) (oi := ⟨_, _, _, _, _, _⟩) (v := hv n) rfl (by kernel_rfl) (by kernel_rfl) (by kernel_rfl) (fun _ _ _ h => h) (yieldsIf_load_mid (by rfl) 26 (.tmp 44) rfl GD 1 rfl (hls n) (.array 32 5) (fun _ hs j v hv => (hs.cell (p := ⟨GD, _, none⟩) hgl hgn).trans (ch j v hv)) Try.underlying26 rfl LDI) hS ?_
            try simp only [Act.put, List.setIfInBounds_toArray, List.set_cons_zero, List.set_cons_succ]
            refine wpAnyH_ready (rs := [5]) (by kernel_rfl) (by simp) ?_
            refine AllReadyH.cons (o := ⟨_, _, _, _, _, _⟩) rfl (fun K hK => ?_) AllReadyH.nil
            rw [if_pos (by rfl)]
            go_step
            refine PL.out.mono ?_
            rintro e w3 ⟨rfl, o3, hv3, ho3, hk3⟩
            have HQ3 := Lib.hid ((HQ.out.below ((Below.refl _ _).drew)).keep hk3 (fun h => (HS.out.2.2.2.2.1 _ h).2.1 rfl) (fun g hg h => (HS.out.2.2.2.2.1 _ h).2.2 hg))
            simp only []
            refine hK.out _ _ ((Keep.refl _ wC).drew.trans (hk3.mono fun _ h => .inl h)) (fun hS' => ?_)
            clear hS hK
            have hS := hS'; clear hS'
            try simp only [Act.put, List.setIfInBounds_toArray, List.set_cons_zero, List.set_cons_succ]
            refine wpAnyH_ready (rs := [11]) (by kernel_rfl) (by simp) ?_
            refine AllReadyH.cons (o := ⟨_, _, _, _, _, _⟩) rfl (fun K hK => ?_) AllReadyH.nil
            rw [if_pos (by rfl)]
            go_step
            refine (qvote_yes q L o2 x n w3 HQ3.out (by omega) HB.out).mono ?_
            rintro e w4 ⟨rfl, o4, hq4, ho4, hk4⟩
            simp only []
            refine hK.out _ _ (hS.trans' hk4 (fun _ h => .inl (.inr h))) (fun hS' => ?_)
            clear hS hK
            have hS := hS'; clear hS'
            try simp only [Act.put, List.setIfInBounds_toArray, List.set_cons_zero, List.set_cons_succ]
            refine wpAnyH_take (i := 12) (oi := ⟨_, _, _, _, _, _⟩) (v := ?_) rfl (by kernel_rfl) (by kernel_rfl) (by kernel_rfl) (fun _ _ _ h => h) (Or.inl ⟨by rfl, ?_⟩) hS ?_
            rotate_left
            · intro w0 hs; have hc0 := (hs.cell (p := ⟨GD, 0, none⟩) hgl hgn).trans c0; clear hs; go_simp; try (with_reducible rfl)
            try simp only [Act.put, List.setIfInBounds_toArray, List.set_cons_zero, List.set_cons_succ]
            refine wpAnyH_take (i := 13) (oi := ⟨_, _, _, _, _, _⟩) (v := ?_) rfl (by kernel_rfl) (by kernel_rfl) (by kernel_rfl) (fun _ _ _ h => h) (Or.inl ⟨by rfl, ?_⟩) hS ?_
            rotate_left
            · intro w0 hs; have hc0 := (hs.cell (p := ⟨GD, 0, none⟩) hgl hgn).trans c0; clear hs; go_simp; try (with_reducible rfl)
            try simp only [Act.put, List.setIfInBounds_toArray, List.set_cons_zero, List.set_cons_succ]
            refine wpAnyH_done (by kernel_rfl) ?_ _
            have hV4 : VAt w4 p L bm o3 := hv3.keep hk4 (fun g h e => by
              have hold : g < wC.heap.size := by
                rcases e with rfl | e
                · exact HQ.out.lt.1
                · exact HQ.out.lt.2 g e
              rcases h with rfl | rfl | h
              · rcases e with e | e
                · exact hqp e.symm
                · exact (HS.out.2.2.2.1 _ e).2.1 rfl
              · rcases e with e | e
                · exact hqb e.symm
                · exact (HS.out.2.2.2.1 _ e).2.2 rfl
              · rcases ho3 g h with h | h
                · rcases e with e | e
                  · exact (HS.out.2.2.1 g h).2.1 e
                  · exact (HS.out.2.2.1 g h).2.2 e
                · have h : wC.heap.size ≤ g := h
                  omega)
            have HV4 := Lib.hid hV4
            have HV3 := Lib.hid hv3.lt
            have HQ4 := Lib.hid hq4
            have hgl4 : GD < w4.heap.size := Nat.lt_of_lt_of_le hgl hS.size
            have c04 := (hS.cell (p := ⟨GD, 0, none⟩) hgl hgn).trans c0
            have ch4 : w4.rangeAt GD 1 (hls n) := fun j v hv => (hS.cell (p := ⟨GD, _, none⟩) hgl hgn).trans (ch j v hv)
            have hll : L.length ≤ k + 1 := by omega
            have HOK := Lib.hid (HS.out.1)
            have HC := Lib.hid (show vhas L x = true from HB.out)
            have hl4 : L.length ≤ 10000 := by omega
            have HMW := Lib.hid (show ∀ y ∈ once (L.map Prod.snd), y < W256 from fun y hy => by
              rw [once_mem] at hy
              obtain ⟨e, he, rfl⟩ := List.mem_map.1 hy
              exact (HOK.out.2 e he).2)
            have hMl : (once (L.map Prod.snd)).length ≤ 1000000 := by
              refine Nat.le_trans (once_len _) ?_; rw [List.length_map]; omega
            have hSl : (saidBy L n).length ≤ 10000 := Nat.le_trans (saidBy_len _ _) hl4
            have H4 := Lib.hid (And.intro hS (And.intro ho3 (And.intro ho4 hk3)))
            clear hv3 hq4 hV4
            clear hS ho3 ho4 hk3 hk4 PL HQ3 c0 ch c33 hgn
            go_upto_region 10 with fail
            refine wp_region_held_drew (S := fun w' => Below w4.heap.size w4 w') (by kernel_rfl) ((Below.refl _ _).drew) (fun hS => ?_)
            refine wpAnyH_take (i := 0) (oi := ⟨_, _, _, _, _, _⟩) (v := ?_) rfl (by kernel_rfl) (by kernel_rfl) (by kernel_rfl) (fun _ _ _ h => h) (Or.inl ⟨by rfl, ?_⟩) hS ?_
            rotate_left
            · intro w0 hs; have hc0 := (hs.cell (p := ⟨GD, 0, none⟩) hgl4).trans c04; clear hs; go_simp; try (with_reducible rfl)
            try simp only [Act.put, List.setIfInBounds_toArray, List.set_cons_zero, List.set_cons_succ]
            refine wpAnyH_take (i := 1) (oi := ⟨_, _, _, _, _, _⟩) (v := ?_) rfl (by kernel_rfl) (by kernel_rfl) (by kernel_rfl) (fun _ _ _ h => h) (Or.inl ⟨by rfl, ?_⟩) hS ?_
            rotate_left
            · intro w0 hs; have hc0 := (hs.cell (p := ⟨GD, 0, none⟩) hgl4).trans c04; clear hs; go_simp; try (with_reducible rfl)
            try simp only [Act.put, List.setIfInBounds_toArray, List.set_cons_zero, List.set_cons_succ]
            refine wpAnyH_take (i := 2) (oi := ⟨_, _, _, _, _, _⟩) (v := ?_) rfl (by kernel_rfl) (by kernel_rfl) (by kernel_rfl) (fun _ _ _ h => h) (Or.inl ⟨by rfl, ?_⟩) hS ?_
            rotate_left
            · intro w0 hs; have hc0 := (hs.cell (p := ⟨GD, 0, none⟩) hgl4).trans c04; clear hs; go_simp; try (with_reducible rfl)
            try simp only [Act.put, List.setIfInBounds_toArray, List.set_cons_zero, List.set_cons_succ]
            refine wpAnyH_take (i := 3) (oi := ⟨_, _, _, _, _, _⟩) (v := ?_) rfl (by kernel_rfl) (by kernel_rfl) (by kernel_rfl) (fun _ _ _ h => h) (Or.inl ⟨by rfl, ?_⟩) hS ?_
            rotate_left
            · intro w0 hs; have hc0 := (hs.cell (p := ⟨GD, 0, none⟩) hgl4).trans c04; clear hs; go_simp; try (with_reducible rfl)
            try simp only [Act.put, List.setIfInBounds_toArray, List.set_cons_zero, List.set_cons_succ]
            refine wpAnyH_take (i := 4) (oi := ⟨_, _, _, _, _, _⟩) (v := ?_) rfl (by kernel_rfl) (by kernel_rfl) (by kernel_rfl) (fun _ _ _ h => h) (Or.inl ⟨by rfl, ?_⟩) hS ?_
            rotate_left
            · intro w0 hs; have hc0 := (hs.cell (p := ⟨GD, 0, none⟩) hgl4).trans c04; clear hs; go_simp; try (with_reducible rfl)
            try simp only [Act.put, List.setIfInBounds_toArray, List.set_cons_zero, List.set_cons_succ]
            refine wpAnyH_take (i := 5) (oi := ⟨_, _, _, _, _, _⟩) (v := ?_) rfl (by kernel_rfl) (by kernel_rfl) (by kernel_rfl) (fun _ _ _ h => h) (Or.inl ⟨by rfl, ?_⟩) hS ?_
            rotate_left
            · intro w0 hs; have hc0 := (hs.cell (p := ⟨GD, 0, none⟩) hgl4).trans c04; clear hs; go_simp; try (with_reducible rfl)
            try simp only [Act.put, List.setIfInBounds_toArray, List.set_cons_zero, List.set_cons_succ]
            refine wpAnyH_take (i := 6) (oi := ⟨_, _, _, _, _, _⟩) (v := ?_) rfl (by kernel_rfl) (by kernel_rfl) (by kernel_rfl) (fun _ _ _ h => h) (Or.inl ⟨by rfl, ?_⟩) hS ?_
            rotate_left
            · intro w0 hs; have hc0 := (hs.cell (p := ⟨GD, 0, none⟩) hgl4).trans c04; clear hs; go_simp; try (with_reducible rfl)
            try simp only [Act.put, List.setIfInBounds_toArray, List.set_cons_zero, List.set_cons_succ]
            refine wpAnyH_take (i := 8) (oi := ⟨_, _, _, _, _, _⟩) (v := ?_) rfl (by kernel_rfl) (by kernel_rfl) (by kernel_rfl) (fun _ _ _ h => h) (Or.inl ⟨by rfl, ?_⟩) hS ?_
            rotate_left
            · intro w0 hs; have hc0 := (hs.cell (p := ⟨GD, 0, none⟩) hgl4).trans c04; clear hs; go_simp; try (with_reducible rfl)
            try simp only [Act.put, List.setIfInBounds_toArray, List.set_cons_zero, List.set_cons_succ]
            refine wpAnyH_take (i := 9) (oi := ⟨_, _, _, _, _, _⟩) (v := ?_) rfl (by kernel_rfl) (by kernel_rfl) (by kernel_rfl) (fun _ _ _ h => h) (Or.inl ⟨by rfl, ?_⟩) hS ?_
            rotate_left
            · intro w0 hs; have hc0 := (hs.cell (p := ⟨GD, 0, none⟩) hgl4).trans c04; clear hs; go_simp; try (with_reducible rfl)
            try simp only [Act.put, List.setIfInBounds_toArray, List.set_cons_zero, List.set_cons_succ]
            refine wpAnyH_take (i := 10) (oi := ⟨_, _, _, _, _, _⟩) (v := ?_) rfl (by kernel_rfl) (by kernel_rfl) (by kernel_rfl) (fun _ _ _ h => h) (Or.inl ⟨by rfl, ?_⟩) hS ?_
            rotate_left
            · intro w0 hs; have hc0 := (hs.cell (p := ⟨GD, 0, none⟩) hgl4).trans c04; clear hs; go_simp; try (with_reducible rfl)
            try simp only [Act.put, List.setIfInBounds_toArray, List.set_cons_zero, List.set_cons_succ]
            refine wpAnyH_ready (rs := [7]) (by kernel_rfl) (by simp) ?_
            refine AllReadyH.cons (o := ⟨_, _, _, _, _, _⟩) rfl (fun K hK => ?_) AllReadyH.nil
            rw [if_pos (by rfl)]
            go_step
            have PA := phas p L bm o3 x _ (HV4.out.below hS) hwf
            rw [HC.out] at PA
            refine PA.mono ?_
            rintro e y1 ⟨rfl, hy1⟩
            simp only []
            refine hK.out _ _ (hS.trans (hy1.mono hS.size)) (fun hS' => ?_)
            clear hS hK
            have hS := hS'; clear hS'
            try simp only [Act.put, List.setIfInBounds_toArray, List.set_cons_zero, List.set_cons_succ]
            refine wpAnyH_ready (rs := [11]) (by kernel_rfl) (by simp) ?_
            refine AllReadyH.cons (o := ⟨_, _, _, _, _, _⟩) rfl (fun K hK => ?_) AllReadyH.nil
            rw [if_pos (by rfl)]
            go_step
            have PA := qhas q L o4 x _ (HQ4.out.below hS) hl4
            rw [HC.out] at PA
            refine PA.mono ?_
            rintro e y2 ⟨rfl, hy2⟩
            simp only []
            refine hK.out _ _ (hS.trans (hy2.mono hS.size)) (fun hS' => ?_)
            clear hS hK
            have hS := hS'; clear hS'
            try simp only [Act.put, List.setIfInBounds_toArray, List.set_cons_zero, List.set_cons_succ]
            refine wpAnyH_take (i := 12) (oi := ⟨_, _, _, _, _, _⟩) (v := ?_) rfl (by kernel_rfl) (by kernel_rfl) (by kernel_rfl) (fun _ _ _ h => h) (Or.inl ⟨by rfl, ?_⟩) hS ?_
            rotate_left
            · intro w0 hs; have hc0 := (hs.cell (p := ⟨GD, 0, none⟩) hgl4).trans c04; clear hs; go_simp; try (with_reducible rfl)
            try simp only [Act.put, List.setIfInBounds_toArray, List.set_cons_zero, List.set_cons_succ]
            refine wpAnyH_take (i := 13) (oi := ⟨_, _, _, _, _, _⟩) (v := ?_) rfl (by kernel_rfl) (by kernel_rfl) (by kernel_rfl) (fun _ _ _ h => h) (Or.inl ⟨by rfl, ?_⟩) hS ?_
            rotate_left
            · intro w0 hs; have hc0 := (hs.cell (p := ⟨GD, 0, none⟩) hgl4).trans c04; clear hs; go_simp; try (with_reducible rfl)
            try simp only [Act.put, List.setIfInBounds_toArray, List.set_cons_zero, List.set_cons_succ]
            refine wpAnyH_take (i := 14) (oi := ⟨_, _, _, _, _, _⟩) (v := ?_) rfl (by kernel_rfl) (by kernel_rfl) (by kernel_rfl) (fun _ _ _ h => h) (Or.inl ⟨by rfl, ?_⟩) hS ?_
            rotate_left
            · intro w0 hs; have hc0 := (hs.cell (p := ⟨GD, 0, none⟩) hgl4).trans c04; clear hs; go_simp; try (with_reducible rfl)
            try simp only [Act.put, List.setIfInBounds_toArray, List.set_cons_zero, List.set_cons_succ]
            refine wpAnyH_take (i := 15) (oi := ⟨_, _, _, _, _, _⟩) (v := ?_) rfl (by kernel_rfl) (by kernel_rfl) (by kernel_rfl) (fun _ _ _ h => h) (Or.inl ⟨by rfl, ?_⟩) hS ?_
            rotate_left
            · intro w0 hs; have hc0 := (hs.cell (p := ⟨GD, 0, none⟩) hgl4).trans c04; clear hs; go_simp; try (with_reducible rfl)
            try simp only [Act.put, List.setIfInBounds_toArray, List.set_cons_zero, List.set_cons_succ]
            refine wpAnyH_take (i := 17) (oi := ⟨_, _, _, _, _, _⟩) (v := ?_) rfl (by kernel_rfl) (by kernel_rfl) (by kernel_rfl) (fun _ _ _ h => h) (Or.inl ⟨by rfl, ?_⟩) hS ?_
            rotate_left
            · intro w0 hs; have hc0 := (hs.cell (p := ⟨GD, 0, none⟩) hgl4).trans c04; clear hs; go_simp; try (with_reducible rfl)
            try simp only [Act.put, List.setIfInBounds_toArray, List.set_cons_zero, List.set_cons_succ]
            refine wpAnyH_ready (rs := [16]) (by kernel_rfl) (by simp) ?_
            refine AllReadyH.cons (o := ⟨_, _, _, _, _, _⟩) rfl (fun K hK => ?_) AllReadyH.nil
            rw [if_pos (by rfl)]
            go_step
            refine (psums p L bm o3 _ (HV4.out.below hS) hl4 HOK.out).mono ?_
            rintro e y3 ⟨va, oa, rfl, ra, -, hy3⟩
            obtain ⟨qa, ca, rfl, ia⟩ := HsIn.of_row ra HMW.out
            clear ra
            simp only []
            refine hK.out _ _ (hS.trans (hy3.mono hS.size)) (fun hS' => ?_)
            clear hS hK
            have hS := hS'; clear hS'
            try simp only [Act.put, List.setIfInBounds_toArray, List.set_cons_zero, List.set_cons_succ]
            refine wpAnyH_ready (rs := [18]) (by kernel_rfl) (by simp) ?_
            refine AllReadyH.cons (o := ⟨_, _, _, _, _, _⟩) rfl (fun K hK => ?_) AllReadyH.nil
            rw [if_pos (by rfl)]
            go_step
            refine (qsums q L o4 _ (HQ4.out.below hS) hl4 HOK.out).mono ?_
            rintro e y4 ⟨vb, ob, rfl, rb, -, hy4⟩
            obtain ⟨qb, cb, rfl, ib⟩ := HsIn.of_row rb HMW.out
            clear rb
            simp only []
            refine hK.out _ _ (hS.trans (hy4.mono hS.size)) (fun hS' => ?_)
            clear hS hK
            have hS := hS'; clear hS'
            try simp only [Act.put, List.setIfInBounds_toArray, List.set_cons_zero, List.set_cons_succ]
            refine wpAnyH_ready (rs := [19]) (by kernel_rfl) (by simp) ?_
            refine AllReadyH.cons (o := ⟨_, _, _, _, _, _⟩) rfl (fun K hK => ?_) AllReadyH.nil
            rw [if_pos (by rfl)]
            go_step
            refine (hequal qa qb _ ca cb _ _ (ia.below hy4) ib hMl).mono ?_
            rintro e y5 ⟨rfl, hy5⟩
            simp only []
            refine hK.out _ _ (hS.trans (hy5.mono hS.size)) (fun hS' => ?_)
            clear hS hK
            have hS := hS'; clear hS'
            try simp only [Act.put, List.setIfInBounds_toArray, List.set_cons_zero, List.set_cons_succ]
            refine wpAnyH_take (i := 20) (oi := ⟨_, _, _, _, _, _⟩) (v := ?_) rfl (by kernel_rfl) (by kernel_rfl) (by kernel_rfl) (fun _ _ _ h => h) (Or.inl ⟨by rfl, ?_⟩) hS ?_
            rotate_left
            · intro w0 hs; have hc0 := (hs.cell (p := ⟨GD, 0, none⟩) hgl4).trans c04; clear hs; go_simp; try (with_reducible rfl)
            try simp only [Act.put, List.setIfInBounds_toArray, List.set_cons_zero, List.set_cons_succ]
            refine wpAnyH_take (i := 21) (oi := ⟨_, _, _, _, _, _⟩) (v := ?_) rfl (by kernel_rfl) (by kernel_rfl) (by kernel_rfl) (fun _ _ _ h => h) (Or.inl ⟨by rfl, ?_⟩) hS ?_
            rotate_left
            · intro w0 hs; have hc0 := (hs.cell (p := ⟨GD, 0, none⟩) hgl4).trans c04; clear hs; go_simp; try (with_reducible rfl)
            try simp only [Act.put, List.setIfInBounds_toArray, List.set_cons_zero, List.set_cons_succ]
            refine wpAnyH_take (i := 22) (oi := ⟨_, _, _, _, _, _⟩) (v := ?_) rfl (by kernel_rfl) (by kernel_rfl) (by kernel_rfl) (fun _ _ _ h => h) (Or.inl ⟨by rfl, ?_⟩) hS ?_
            rotate_left
            · intro w0 hs; have hc0 := (hs.cell (p := ⟨GD, 0, none⟩) hgl4).trans c04; clear hs; go_simp; try (with_reducible rfl)
            try simp only [Act.put, List.setIfInBounds_toArray, List.set_cons_zero, List.set_cons_succ]
            refine wpAnyH_take (i := 23) (oi := ⟨_, _, _, _, _, _⟩) (v := ?_) rfl (by kernel_rfl) (by kernel_rfl) (by kernel_rfl) (fun _ _ _ h => h) (Or.inl ⟨by rfl, ?_⟩) hS ?_
            rotate_left
            · intro w0 hs; have hc0 := (hs.cell (p := ⟨GD, 0, none⟩) hgl4).trans c04; clear hs; go_simp; try (with_reducible rfl)
            try simp only [Act.put, List.setIfInBounds_toArray, List.set_cons_zero, List.set_cons_succ]
            refine wpAnyH_take (i := 24) (oi := ⟨_, _, _, _, _, _⟩) (v := ?_) rfl (by kernel_rfl) (by kernel_rfl) (by kernel_rfl) (fun _ _ _ h => h) (Or.inl ⟨by rfl, ?_⟩) hS ?_
            rotate_left
            · intro w0 hs; have hc0 := (hs.cell (p := ⟨GD, 0, none⟩) hgl4).trans c04; clear hs; go_simp; try (with_reducible rfl)
            try simp only [Act.put, List.setIfInBounds_toArray, List.set_cons_zero, List.set_cons_succ]
            refine wpAnyH_take (i := 25) (oi := ⟨_, _, _, _, _, _⟩) (v := hv n) rfl (by kernel_rfl) (by kernel_rfl) (by kernel_rfl) (fun _ _ _ h => h) (yieldsIf_load_mid (by rfl) 26 (.tmp 71) rfl GD 1 rfl (hls n) (.array 32 5) (fun _ hs j v hv => (hs.cell (p := ⟨GD, _, none⟩) hgl4).trans (ch4 j v hv)) Try.underlying26 rfl LDI) hS ?_
            try simp only [Act.put, List.setIfInBounds_toArray, List.set_cons_zero, List.set_cons_succ]
            refine wpAnyH_take (i := 27) (oi := ⟨_, _, _, _, _, _⟩) (v := ?_) rfl (by kernel_rfl) (by kernel_rfl) (by kernel_rfl) (fun _ _ _ h => h) (Or.inl ⟨by rfl, ?_⟩) hS ?_
            rotate_left
            · intro w0 hs; have hc0 := (hs.cell (p := ⟨GD, 0, none⟩) hgl4).trans c04; clear hs; go_simp; try (with_reducible rfl)
            try simp only [Act.put, List.setIfInBounds_toArray, List.set_cons_zero, List.set_cons_succ]
            refine wpAnyH_take (i := 28) (oi := ⟨_, _, _, _, _, _⟩) (v := ?_) rfl (by kernel_rfl) (by kernel_rfl) (by kernel_rfl) (fun _ _ _ h => h) (Or.inl ⟨by rfl, ?_⟩) hS ?_
            rotate_left
            · intro w0 hs; have hc0 := (hs.cell (p := ⟨GD, 0, none⟩) hgl4).trans c04; clear hs; go_simp; try (with_reducible rfl)
            try simp only [Act.put, List.setIfInBounds_toArray, List.set_cons_zero, List.set_cons_succ]
            refine wpAnyH_take (i := 29) (oi := ⟨_, _, _, _, _, _⟩) (v := hv n) rfl (by kernel_rfl) (by kernel_rfl) (by kernel_rfl) (fun _ _ _ h => h) (yieldsIf_load_mid (by rfl) 26 (.tmp 75) rfl GD 1 rfl (hls n) (.array 32 5) (fun _ hs j v hv => (hs.cell (p := ⟨GD, _, none⟩) hgl4).trans (ch4 j v hv)) Try.underlying26 rfl LDI) hS ?_
            try simp only [Act.put, List.setIfInBounds_toArray, List.set_cons_zero, List.set_cons_succ]
            refine wpAnyH_ready (rs := [26]) (by kernel_rfl) (by simp) ?_
            refine AllReadyH.cons (o := ⟨_, _, _, _, _, _⟩) rfl (fun K hK => ?_) AllReadyH.nil
            rw [if_pos (by rfl)]
            go_step
            refine (ppeers p L bm o3 n _ (HV4.out.below hS) hl4 HOK.out hnn).mono ?_
            rintro e y6 ⟨va', oa', rfl, ra', -, hy6⟩
            simp only []
            refine hK.out _ _ (hS.trans (hy6.mono hS.size)) (fun hS' => ?_)
            clear hS hK
            have hS := hS'; clear hS'
            try simp only [Act.put, List.setIfInBounds_toArray, List.set_cons_zero, List.set_cons_succ]
            refine wpAnyH_ready (rs := [30]) (by kernel_rfl) (by simp) ?_
            refine AllReadyH.cons (o := ⟨_, _, _, _, _, _⟩) rfl (fun K hK => ?_) AllReadyH.nil
            rw [if_pos (by rfl)]
            go_step
            refine (qpeers q L o4 n _ (HQ4.out.below hS) hl4 HOK.out hnn).mono ?_
            rintro e y7 ⟨vb', ob', rfl, rb', -, hy7⟩
            simp only []
            refine hK.out _ _ (hS.trans (hy7.mono hS.size)) (fun hS' => ?_)
            clear hS hK
            have hS := hS'; clear hS'
            try simp only [Act.put, List.setIfInBounds_toArray, List.set_cons_zero, List.set_cons_succ]
            refine wpAnyH_ready (rs := [31]) (by kernel_rfl) (by simp) ?_
            refine AllReadyH.cons (o := ⟨_, _, _, _, _, _⟩) rfl (fun K hK => ?_) AllReadyH.nil
            rw [if_pos (by rfl)]
            go_step
            refine (iequal _ _ _ oa' ob' _ _ (ra'.keep (X := fun _ => False) (Keep.of_below hy7) (fun _ _ h => h)) rb' hSl).mono ?_
            rintro e y8 ⟨rfl, hy8⟩
            simp only []
            refine hK.out _ _ (hS.trans (hy8.mono hS.size)) (fun hS' => ?_)
            clear hS hK
            have hS := hS'; clear hS'
            try simp only [Act.put, List.setIfInBounds_toArray, List.set_cons_zero, List.set_cons_succ]
            refine wpAnyH_take (i := 32) (oi := ⟨_, _, _, _, _, _⟩) (v := ?_) rfl (by kernel_rfl) (by kernel_rfl) (by kernel_rfl) (fun _ _ _ h => h) (Or.inl ⟨by rfl, ?_⟩) hS ?_
            rotate_left
            · intro w0 hs; have hc0 := (hs.cell (p := ⟨GD, 0, none⟩) hgl4).trans c04; clear hs; go_simp; try (with_reducible rfl)
            try simp only [Act.put, List.setIfInBounds_toArray, List.set_cons_zero, List.set_cons_succ]
            refine wpAnyH_take (i := 33) (oi := ⟨_, _, _, _, _, _⟩) (v := ?_) rfl (by kernel_rfl) (by kernel_rfl) (by kernel_rfl) (fun _ _ _ h => h) (Or.inl ⟨by rfl, ?_⟩) hS ?_
            rotate_left
            · intro w0 hs; have hc0 := (hs.cell (p := ⟨GD, 0, none⟩) hgl4).trans c04; clear hs; go_simp; try (with_reducible rfl)
            try simp only [Act.put, List.setIfInBounds_toArray, List.set_cons_zero, List.set_cons_succ]
            refine wpAnyH_done (by kernel_rfl) ?_ _
            have HE := Lib.hid hS
            clear hS
            go_wp2
            go_roundg (len - (k + 1))
            case measure => rw [HG.out]; omega
            case rel =>
              obtain ⟨hS, ho3, ho4, hk3⟩ := H4.out
              have hsz : wC.heap.size ≤ w3.heap.size := hk3.size
              have hsz2 := HS.out.2.2.2.2.2.2.size
              have b4 := HS.out.2.2.2.2.2.2.trans (hS.below hsz2 (fun g h => (HS.out.2.2.2.2.2.1 g h).2))
              refine ⟨k + 1, hlt, by omega, rfl, rfl, L, o3, o4, HV4.out.below HE.out, HQ4.out.below HE.out, HOK.out, hll, fun g h => ?_, fun g h => ?_, b4.trans (HE.out.mono b4.size)⟩
              · have hg3 : g < w3.heap.size := HV3.out g (.inr (.inr h))
                rcases ho3 g h with h1 | h1
                · have h5 := HS.out.2.2.1 g h1
                  refine ⟨h5.1, h5.2.1, fun e => ?_⟩
                  rcases ho4 g e with e | e
                  · exact h5.2.2 e
                  · omega
                · have h1 : wC.heap.size ≤ g := h1
                  have hql := HQ.out.lt
                  refine ⟨by omega, by omega, fun e => ?_⟩
                  rcases ho4 g e with e | e
                  · have := hql.2 g e; omega
                  · omega
              · rcases ho4 g h with e | e
                · exact HS.out.2.2.2.1 g e
                · have hvl := HV.out.lt
                  have h1 := hvl p (.inl rfl)
                  have h2 := hvl bm (.inr (.inl rfl))
                  exact ⟨by omega, by omega, by omega⟩
          | false =>
            have HB := Lib.hid hb
            clear hb
            have PL := Lib.hid (pvote_no p L bm o x n wC.drew HV.out.drew hwf (by omega) HB.out)
            go_upto_region 9 with fail
            refine wp_region_held_drew (S := fun w' => Keep (fun g => foot3 p bm o g ∨ g = q ∨ o2 = some g) wC w') (by kernel_rfl) ((Keep.refl _ _).drew) (fun hS => ?_)
            refine wpAnyH_take (i := 0) (oi := ⟨_, _, _, _, _, _⟩) (v := ?_) rfl (by kernel_rfl) (by kernel_rfl) (by kernel_rfl) (fun _ _ _ h => h) (Or.inl ⟨by rfl, ?_⟩) hS ?_
            rotate_left
            · intro w0 hs; have hc0 := (hs.cell (p := ⟨GD, 0, none⟩) hgl hgn).trans c0; clear hs; go_simp; try (with_reducible rfl)
            try simp only [Act.put, List.setIfInBounds_toArray, List.set_cons_zero, List.set_cons_succ]
            refine wpAnyH_take (i := 1) (oi := ⟨_, _, _, _, _, _⟩) (v := ?_) rfl (by kernel_rfl) (by kernel_rfl) (by kernel_rfl) (fun _ _ _ h => h) (Or.inl ⟨by rfl, ?_⟩) hS ?_
            rotate_left
            · intro w0 hs; have hc0 := (hs.cell (p := ⟨GD, 0, none⟩) hgl hgn).trans c0; clear hs; go_simp; try (with_reducible rfl)
            try simp only [Act.put, List.setIfInBounds_toArray, List.set_cons_zero, List.set_cons_succ]
            refine wpAnyH_take (i := 2) (oi := ⟨_, _, _, _, _, _⟩) (v := ?_) rfl (by kernel_rfl) (by kernel_rfl) (by kernel_rfl) (fun _ _ _ h => h) (Or.inl ⟨by rfl, ?_⟩) hS ?_
            rotate_left
            · intro w0 hs; have hc0 := (hs.cell (p := ⟨GD, 0, none⟩) hgl hgn).trans c0; clear hs; go_simp; try (with_reducible rfl)
            try simp only [Act.put, List.setIfInBounds_toArray, List.set_cons_zero, List.set_cons_succ]
            refine wpAnyH_take (i := 3) (oi := ⟨_, _, _, _, _, _⟩) (v := ?_) rfl (by kernel_rfl) (by kernel_rfl) (by kernel_rfl) (fun _ _ _ h => h) (Or.inl ⟨by rfl, ?_⟩) hS ?_
            rotate_left
            · intro w0 hs; have hc0 := (hs.cell (p := ⟨GD, 0, none⟩) hgl hgn).trans c0; clear hs; go_simp; try (with_reducible rfl)
            try simp only [Act.put, List.setIfInBounds_toArray, List.set_cons_zero, List.set_cons_succ]
            refine wpAnyH_take (i := 4) (oi := ⟨_, _, _, _, _, _⟩) (v := hv n) rfl (by kernel_rfl) (by kernel_rfl) (by kernel_rfl) (fun _ _ _ h => h) (yieldsIf_load_mid (by rfl) 26 (.tmp 38) rfl GD 1 rfl (hls n) (.array 32 5) (fun _ hs j v hv => (hs.cell (p := ⟨GD, _, none⟩) hgl hgn).trans (ch j v hv)) Try.underlying26 rfl LDI) hS ?_
            try simp only [Act.put, List.setIfInBounds_toArray, List.set_cons_zero, List.set_cons_succ]
            refine wpAnyH_take (i := 6) (oi := ⟨_, _, _, _, _, _⟩) (v := ?_) rfl (by kernel_rfl) (by kernel_rfl) (by kernel_rfl) (fun _ _ _ h => h) (Or.inl ⟨by rfl, ?_⟩) hS ?_
            rotate_left
            · intro w0 hs; have hc0 := (hs.cell (p := ⟨GD, 0, none⟩) hgl hgn).trans c0; clear hs; go_simp; try (with_reducible rfl)
            try simp only [Act.put, List.setIfInBounds_toArray, List.set_cons_zero, List.set_cons_succ]
            refine wpAnyH_take (i := 7) (oi := ⟨_, _, _, _, _, _⟩) (v := ?_) rfl (by kernel_rfl) (by kernel_rfl) (by kernel_rfl) (fun _ _ _ h => h) (Or.inl ⟨by rfl, ?_⟩) hS ?_
            rotate_left
            · intro w0 hs; have hc0 := (hs.cell (p := ⟨GD, 0, none⟩) hgl hgn).trans c0; clear hs; go_simp; try (with_reducible rfl)
            try simp only [Act.put, List.setIfInBounds_toArray, List.set_cons_zero, List.set_cons_succ]
            refine wpAnyH_take (i := 8) (oi := ⟨_, _, _, _, _, _⟩) (v := ?_) rfl (by kernel_rfl) (by kernel_rfl) (by kernel_rfl) (fun _ _ _ h => h) (Or.inl ⟨by rfl, ?_⟩) hS ?_
            rotate_left
            · intro w0 hs; have hc0 := (hs.cell (p := ⟨GD, 0, none⟩) hgl hgn).trans c0; clear hs; go_simp; try (with_reducible rfl)
            try simp only [Act.put, List.setIfInBounds_toArray, List.set_cons_zero, List.set_cons_succ]
            refine wpAnyH_take (i := 9) (oi := ⟨_, _, _, _, _, _⟩) (v := ?_) rfl (by kernel_rfl) (by kernel_rfl) (by kernel_rfl) (fun _ _ _ h => h) (Or.inl ⟨by rfl, ?_⟩) hS ?_
            rotate_left
            · intro w0 hs; have hc0 := (hs.cell (p := ⟨GD, 0, none⟩) hgl hgn).trans c0; clear hs; go_simp; try (with_reducible rfl)
            try simp only [Act.put, List.setIfInBounds_toArray, List.set_cons_zero, List.set_cons_succ]
            refine wpAnyH_take (i := 10) (oi := ⟨_, _, _, _, _, _⟩) (v := hv n) rfl (by kernel_rfl) (by kernel_rfl) (by kernel_rfl) (fun _ _ _ h => h) (yieldsIf_load_mid (by rfl) 26 (.tmp 44) rfl GD 1 rfl (hls n) (.array 32 5) (fun _ hs j v hv => (hs.cell (p := ⟨GD, _, none⟩) hgl hgn).trans (ch j v hv)) Try.underlying26 rfl LDI) hS ?_
            try simp only [Act.put, List.setIfInBounds_toArray, List.set_cons_zero, List.set_cons_succ]
            refine wpAnyH_ready (rs := [5]) (by kernel_rfl) (by simp) ?_
            refine AllReadyH.cons (o := ⟨_, _, _, _, _, _⟩) rfl (fun K hK => ?_) AllReadyH.nil
            rw [if_pos (by rfl)]
            go_step
            refine PL.out.mono ?_
            rintro e w3 ⟨rfl, o3, hv3, ho3, hk3⟩
            have HQ3 := Lib.hid ((HQ.out.below ((Below.refl _ _).drew)).keep hk3 (fun h => (HS.out.2.2.2.2.1 _ h).2.1 rfl) (fun g hg h => (HS.out.2.2.2.2.1 _ h).2.2 hg))
            simp only []
            refine hK.out _ _ ((Keep.refl _ wC).drew.trans (hk3.mono fun _ h => .inl h)) (fun hS' => ?_)
            clear hS hK
            have hS := hS'; clear hS'
            try simp only [Act.put, List.setIfInBounds_toArray, List.set_cons_zero, List.set_cons_succ]
            refine wpAnyH_ready (rs := [11]) (by kernel_rfl) (by simp) ?_
            refine AllReadyH.cons (o := ⟨_, _, _, _, _, _⟩) rfl (fun K hK => ?_) AllReadyH.nil
            rw [if_pos (by rfl)]
            go_step
            refine (qvote_no q L o2 x n w3 HQ3.out (by omega) HB.out).mono ?_
            rintro e w4 ⟨rfl, o4, hq4, ho4, hk4⟩
            simp only []
            refine hK.out _ _ (hS.trans' hk4 (fun _ h => .inl (.inr h))) (fun hS' => ?_)
            clear hS hK
            have hS := hS'; clear hS'
            try simp only [Act.put, List.setIfInBounds_toArray, List.set_cons_zero, List.set_cons_succ]
            refine wpAnyH_take (i := 12) (oi := ⟨_, _, _, _, _, _⟩) (v := ?_) rfl (by kernel_rfl) (by kernel_rfl) (by kernel_rfl) (fun _ _ _ h => h) (Or.inl ⟨by rfl, ?_⟩) hS ?_
            rotate_left
            · intro w0 hs; have hc0 := (hs.cell (p := ⟨GD, 0, none⟩) hgl hgn).trans c0; clear hs; go_simp; try (with_reducible rfl)
            try simp only [Act.put, List.setIfInBounds_toArray, List.set_cons_zero, List.set_cons_succ]
            refine wpAnyH_take (i := 13) (oi := ⟨_, _, _, _, _, _⟩) (v := ?_) rfl (by kernel_rfl) (by kernel_rfl) (by kernel_rfl) (fun _ _ _ h => h) (Or.inl ⟨by rfl, ?_⟩) hS ?_
            rotate_left
            · intro w0 hs; have hc0 := (hs.cell (p := ⟨GD, 0, none⟩) hgl hgn).trans c0; clear hs; go_simp; try (with_reducible rfl)
            try simp only [Act.put, List.setIfInBounds_toArray, List.set_cons_zero, List.set_cons_succ]
            refine wpAnyH_done (by kernel_rfl) ?_ _
            have hV4 : VAt w4 p (L ++ [(x, n)]) bm o3 := hv3.keep hk4 (fun g h e => by
              have hold : g < wC.heap.size := by
                rcases e with rfl | e
                · exact HQ.out.lt.1
                · exact HQ.out.lt.2 g e
              rcases h with rfl | rfl | h
              · rcases e with e | e
                · exact hqp e.symm
                · exact (HS.out.2.2.2.1 _ e).2.1 rfl
              · rcases e with e | e
                · exact hqb e.symm
                · exact (HS.out.2.2.2.1 _ e).2.2 rfl
              · rcases ho3 g h with h | h
                · rcases e with e | e
                  · exact (HS.out.2.2.1 g h).2.1 e
                  · exact (HS.out.2.2.1 g h).2.2 e
                · have h : wC.heap.size ≤ g := h
                  omega)
            have HV4 := Lib.hid hV4
            have HV3 := Lib.hid hv3.lt
            have HQ4 := Lib.hid hq4
            have hgl4 : GD < w4.heap.size := Nat.lt_of_lt_of_le hgl hS.size
            have c04 := (hS.cell (p := ⟨GD, 0, none⟩) hgl hgn).trans c0
            have ch4 : w4.rangeAt GD 1 (hls n) := fun j v hv => (hS.cell (p := ⟨GD, _, none⟩) hgl hgn).trans (ch j v hv)
            have hll : (L ++ [(x, n)]).length ≤ k + 1 := by simp; omega
            have HOK := Lib.hid (VL.ok_snoc HS.out.1 hwf hnn HB.out)
            have HC := Lib.hid (show vhas (L ++ [(x, n)]) x = true from by simp [vhas])
            clear hv3 hq4 hV4
            generalize (L ++ [(x, n)]) = M2 at HV4 HQ4 hll HOK HC
            have hl4 : M2.length ≤ 10000 := by omega
            have HMW := Lib.hid (show ∀ y ∈ once (M2.map Prod.snd), y < W256 from fun y hy => by
              rw [once_mem] at hy
              obtain ⟨e, he, rfl⟩ := List.mem_map.1 hy
              exact (HOK.out.2 e he).2)
            have hMl : (once (M2.map Prod.snd)).length ≤ 1000000 := by
              refine Nat.le_trans (once_len _) ?_; rw [List.length_map]; omega
            have hSl : (saidBy M2 n).length ≤ 10000 := Nat.le_trans (saidBy_len _ _) hl4
            have H4 := Lib.hid (And.intro hS (And.intro ho3 (And.intro ho4 hk3)))
            skip
            clear hS ho3 ho4 hk3 hk4 PL HQ3 c0 ch c33 hgn
            go_upto_region 10 with fail
            refine wp_region_held_drew (S := fun w' => Below w4.heap.size w4 w') (by kernel_rfl) ((Below.refl _ _).drew) (fun hS => ?_)
            refine wpAnyH_take (i := 0) (oi := ⟨_, _, _, _, _, _⟩) (v := ?_) rfl (by kernel_rfl) (by kernel_rfl) (by kernel_rfl) (fun _ _ _ h => h) (Or.inl ⟨by rfl, ?_⟩) hS ?_
            rotate_left
            · intro w0 hs; have hc0 := (hs.cell (p := ⟨GD, 0, none⟩) hgl4).trans c04; clear hs; go_simp; try (with_reducible rfl)
            try simp only [Act.put, List.setIfInBounds_toArray, List.set_cons_zero, List.set_cons_succ]
            refine wpAnyH_take (i := 1) (oi := ⟨_, _, _, _, _, _⟩) (v := ?_) rfl (by kernel_rfl) (by kernel_rfl) (by kernel_rfl) (fun _ _ _ h => h) (Or.inl ⟨by rfl, ?_⟩) hS ?_
            rotate_left
            · intro w0 hs; have hc0 := (hs.cell (p := ⟨GD, 0, none⟩) hgl4).trans c04; clear hs; go_simp; try (with_reducible rfl)
            try simp only [Act.put, List.setIfInBounds_toArray, List.set_cons_zero, List.set_cons_succ]
            refine wpAnyH_take (i := 2) (oi := ⟨_, _, _, _, _, _⟩) (v := ?_) rfl (by kernel_rfl) (by kernel_rfl) (by kernel_rfl) (fun _ _ _ h => h) (Or.inl ⟨by rfl, ?_⟩) hS ?_
            rotate_left
            · intro w0 hs; have hc0 := (hs.cell (p := ⟨GD, 0, none⟩) hgl4).trans c04; clear hs; go_simp; try (with_reducible rfl)
            try simp only [Act.put, List.setIfInBounds_toArray, List.set_cons_zero, List.set_cons_succ]
            refine wpAnyH_take (i := 3) (oi := ⟨_, _, _, _, _, _⟩) (v := ?_) rfl (by kernel_rfl) (by kernel_rfl) (by kernel_rfl) (fun _ _ _ h => h) (Or.inl ⟨by rfl, ?_⟩) hS ?_
            rotate_left
            · intro w0 hs; have hc0 := (hs.cell (p := ⟨GD, 0, none⟩) hgl4).trans c04; clear hs; go_simp; try (with_reducible rfl)
            try simp only [Act.put, List.setIfInBounds_toArray, List.set_cons_zero, List.set_cons_succ]
            refine wpAnyH_take (i := 4) (oi := ⟨_, _, _, _, _, _⟩) (v := ?_) rfl (by kernel_rfl) (by kernel_rfl) (by kernel_rfl) (fun _ _ _ h => h) (Or.inl ⟨by rfl, ?_⟩) hS ?_
            rotate_left
            · intro w0 hs; have hc0 := (hs.cell (p := ⟨GD, 0, none⟩) hgl4).trans c04; clear hs; go_simp; try (with_reducible rfl)
            try simp only [Act.put, List.setIfInBounds_toArray, List.set_cons_zero, List.set_cons_succ]
            refine wpAnyH_take (i := 5) (oi := ⟨_, _, _, _, _, _⟩) (v := ?_) rfl (by kernel_rfl) (by kernel_rfl) (by kernel_rfl) (fun _ _ _ h => h) (Or.inl ⟨by rfl, ?_⟩) hS ?_
            rotate_left
            · intro w0 hs; have hc0 := (hs.cell (p := ⟨GD, 0, none⟩) hgl4).trans c04; clear hs; go_simp; try (with_reducible rfl)
            try simp only [Act.put, List.setIfInBounds_toArray, List.set_cons_zero, List.set_cons_succ]
            refine wpAnyH_take (i := 6) (oi := ⟨_, _, _, _, _, _⟩) (v := ?_) rfl (by kernel_rfl) (by kernel_rfl) (by kernel_rfl) (fun _ _ _ h => h) (Or.inl ⟨by rfl, ?_⟩) hS ?_
            rotate_left
            · intro w0 hs; have hc0 := (hs.cell (p := ⟨GD, 0, none⟩) hgl4).trans c04; clear hs; go_simp; try (with_reducible rfl)
            try simp only [Act.put, List.setIfInBounds_toArray, List.set_cons_zero, List.set_cons_succ]
            refine wpAnyH_take (i := 8) (oi := ⟨_, _, _, _, _, _⟩) (v := ?_) rfl (by kernel_rfl) (by kernel_rfl) (by kernel_rfl) (fun _ _ _ h => h) (Or.inl ⟨by rfl, ?_⟩) hS ?_
            rotate_left
            · intro w0 hs; have hc0 := (hs.cell (p := ⟨GD, 0, none⟩) hgl4).trans c04; clear hs; go_simp; try (with_reducible rfl)
            try simp only [Act.put, List.setIfInBounds_toArray, List.set_cons_zero, List.set_cons_succ]
            refine wpAnyH_take (i := 9) (oi := ⟨_, _, _, _, _, _⟩) (v := ?_) rfl (by kernel_rfl) (by kernel_rfl) (by kernel_rfl) (fun _ _ _ h => h) (Or.inl ⟨by rfl, ?_⟩) hS ?_
            rotate_left
            · intro w0 hs; have hc0 := (hs.cell (p := ⟨GD, 0, none⟩) hgl4).trans c04; clear hs; go_simp; try (with_reducible rfl)
            try simp only [Act.put, List.setIfInBounds_toArray, List.set_cons_zero, List.set_cons_succ]
            refine wpAnyH_take (i := 10) (oi := ⟨_, _, _, _, _, _⟩) (v := ?_) rfl (by kernel_rfl) (by kernel_rfl) (by kernel_rfl) (fun _ _ _ h => h) (Or.inl ⟨by rfl, ?_⟩) hS ?_
            rotate_left
            · intro w0 hs; have hc0 := (hs.cell (p := ⟨GD, 0, none⟩) hgl4).trans c04; clear hs; go_simp; try (with_reducible rfl)
            try simp only [Act.put, List.setIfInBounds_toArray, List.set_cons_zero, List.set_cons_succ]
            refine wpAnyH_ready (rs := [7]) (by kernel_rfl) (by simp) ?_
            refine AllReadyH.cons (o := ⟨_, _, _, _, _, _⟩) rfl (fun K hK => ?_) AllReadyH.nil
            rw [if_pos (by rfl)]
            go_step
            have PA := phas p M2 bm o3 x _ (HV4.out.below hS) hwf
            rw [HC.out] at PA
            refine PA.mono ?_
            rintro e y1 ⟨rfl, hy1⟩
            simp only []
            refine hK.out _ _ (hS.trans (hy1.mono hS.size)) (fun hS' => ?_)
            clear hS hK
            have hS := hS'; clear hS'
            try simp only [Act.put, List.setIfInBounds_toArray, List.set_cons_zero, List.set_cons_succ]
            refine wpAnyH_ready (rs := [11]) (by kernel_rfl) (by simp) ?_
            refine AllReadyH.cons (o := ⟨_, _, _, _, _, _⟩) rfl (fun K hK => ?_) AllReadyH.nil
            rw [if_pos (by rfl)]
            go_step
            have PA := qhas q M2 o4 x _ (HQ4.out.below hS) hl4
            rw [HC.out] at PA
            refine PA.mono ?_
            rintro e y2 ⟨rfl, hy2⟩
            simp only []
            refine hK.out _ _ (hS.trans (hy2.mono hS.size)) (fun hS' => ?_)
            clear hS hK
            have hS := hS'; clear hS'
            try simp only [Act.put, List.setIfInBounds_toArray, List.set_cons_zero, List.set_cons_succ]
            refine wpAnyH_take (i := 12) (oi := ⟨_, _, _, _, _, _⟩) (v := ?_) rfl (by kernel_rfl) (by kernel_rfl) (by kernel_rfl) (fun _ _ _ h => h) (Or.inl ⟨by rfl, ?_⟩) hS ?_
            rotate_left
            · intro w0 hs; have hc0 := (hs.cell (p := ⟨GD, 0, none⟩) hgl4).trans c04; clear hs; go_simp; try (with_reducible rfl)
            try simp only [Act.put, List.setIfInBounds_toArray, List.set_cons_zero, List.set_cons_succ]
            refine wpAnyH_take (i := 13) (oi := ⟨_, _, _, _, _, _⟩) (v := ?_) rfl (by kernel_rfl) (by kernel_rfl) (by kernel_rfl) (fun _ _ _ h => h) (Or.inl ⟨by rfl, ?_⟩) hS ?_
            rotate_left
            · intro w0 hs; have hc0 := (hs.cell (p := ⟨GD, 0, none⟩) hgl4).trans c04; clear hs; go_simp; try (with_reducible rfl)
            try simp only [Act.put, List.setIfInBounds_toArray, List.set_cons_zero, List.set_cons_succ]
            refine wpAnyH_take (i := 14) (oi := ⟨_, _, _, _, _, _⟩) (v := ?_) rfl (by kernel_rfl) (by kernel_rfl) (by kernel_rfl) (fun _ _ _ h => h) (Or.inl ⟨by rfl, ?_⟩) hS ?_
            rotate_left
            · intro w0 hs; have hc0 := (hs.cell (p := ⟨GD, 0, none⟩) hgl4).trans c04; clear hs; go_simp; try (with_reducible rfl)
            try simp only [Act.put, List.setIfInBounds_toArray, List.set_cons_zero, List.set_cons_succ]
            refine wpAnyH_take (i := 15) (oi := ⟨_, _, _, _, _, _⟩) (v := ?_) rfl (by kernel_rfl) (by kernel_rfl) (by kernel_rfl) (fun _ _ _ h => h) (Or.inl ⟨by rfl, ?_⟩) hS ?_
            rotate_left
            · intro w0 hs; have hc0 := (hs.cell (p := ⟨GD, 0, none⟩) hgl4).trans c04; clear hs; go_simp; try (with_reducible rfl)
            try simp only [Act.put, List.setIfInBounds_toArray, List.set_cons_zero, List.set_cons_succ]
            refine wpAnyH_take (i := 17) (oi := ⟨_, _, _, _, _, _⟩) (v := ?_) rfl (by kernel_rfl) (by kernel_rfl) (by kernel_rfl) (fun _ _ _ h => h) (Or.inl ⟨by rfl, ?_⟩) hS ?_
            rotate_left
            · intro w0 hs; have hc0 := (hs.cell (p := ⟨GD, 0, none⟩) hgl4).trans c04; clear hs; go_simp; try (with_reducible rfl)
            try simp only [Act.put, List.setIfInBounds_toArray, List.set_cons_zero, List.set_cons_succ]
            refine wpAnyH_ready (rs := [16]) (by kernel_rfl) (by simp) ?_
            refine AllReadyH.cons (o := ⟨_, _, _, _, _, _⟩) rfl (fun K hK => ?_) AllReadyH.nil
            rw [if_pos (by rfl)]
            go_step
            refine (psums p M2 bm o3 _ (HV4.out.below hS) hl4 HOK.out).mono ?_
            rintro e y3 ⟨va, oa, rfl, ra, -, hy3⟩
            obtain ⟨qa, ca, rfl, ia⟩ := HsIn.of_row ra HMW.out
            clear ra
            simp only []
            refine hK.out _ _ (hS.trans (hy3.mono hS.size)) (fun hS' => ?_)
            clear hS hK
            have hS := hS'; clear hS'
            try simp only [Act.put, List.setIfInBounds_toArray, List.set_cons_zero, List.set_cons_succ]
            refine wpAnyH_ready (rs := [18]) (by kernel_rfl) (by simp) ?_
            refine AllReadyH.cons (o := ⟨_, _, _, _, _, _⟩) rfl (fun K hK => ?_) AllReadyH.nil
            rw [if_pos (by rfl)]
            go_step
            refine (qsums q M2 o4 _ (HQ4.out.below hS) hl4 HOK.out).mono ?_
            rintro e y4 ⟨vb, ob, rfl, rb, -, hy4⟩
            obtain ⟨qb, cb, rfl, ib⟩ := HsIn.of_row rb HMW.out
            clear rb
            simp only []
            refine hK.out _ _ (hS.trans (hy4.mono hS.size)) (fun hS' => ?_)
            clear hS hK
            have hS := hS'; clear hS'
            try simp only [Act.put, List.setIfInBounds_toArray, List.set_cons_zero, List.set_cons_succ]
            refine wpAnyH_ready (rs := [19]) (by kernel_rfl) (by simp) ?_
            refine AllReadyH.cons (o := ⟨_, _, _, _, _, _⟩) rfl (fun K hK => ?_) AllReadyH.nil
            rw [if_pos (by rfl)]
            go_step
            refine (hequal qa qb _ ca cb _ _ (ia.below hy4) ib hMl).mono ?_
            rintro e y5 ⟨rfl, hy5⟩
            simp only []
            refine hK.out _ _ (hS.trans (hy5.mono hS.size)) (fun hS' => ?_)
            clear hS hK
            have hS := hS'; clear hS'
            try simp only [Act.put, List.setIfInBounds_toArray, List.set_cons_zero, List.set_cons_succ]
            refine wpAnyH_take (i := 20) (oi := ⟨_, _, _, _, _, _⟩) (v := ?_) rfl (by kernel_rfl) (by kernel_rfl) (by kernel_rfl) (fun _ _ _ h => h) (Or.inl ⟨by rfl, ?_⟩) hS ?_
            rotate_left
            · intro w0 hs; have hc0 := (hs.cell (p := ⟨GD, 0, none⟩) hgl4).trans c04; clear hs; go_simp; try (with_reducible rfl)
            try simp only [Act.put, List.setIfInBounds_toArray, List.set_cons_zero, List.set_cons_succ]
            refine wpAnyH_take (i := 21) (oi := ⟨_, _, _, _, _, _⟩) (v := ?_) rfl (by kernel_rfl) (by kernel_rfl) (by kernel_rfl) (fun _ _ _ h => h) (Or.inl ⟨by rfl, ?_⟩) hS ?_
            rotate_left
            · intro w0 hs; have hc0 := (hs.cell (p := ⟨GD, 0, none⟩) hgl4).trans c04; clear hs; go_simp; try (with_reducible rfl)
            try simp only [Act.put, List.setIfInBounds_toArray, List.set_cons_zero, List.set_cons_succ]
            refine wpAnyH_take (i := 22) (oi := ⟨_, _, _, _, _, _⟩) (v := ?_) rfl (by kernel_rfl) (by kernel_rfl) (by kernel_rfl) (fun _ _ _ h => h) (Or.inl ⟨by rfl, ?_⟩) hS ?_
            rotate_left
            · intro w0 hs; have hc0 := (hs.cell (p := ⟨GD, 0, none⟩) hgl4).trans c04; clear hs; go_simp; try (with_reducible rfl)
            try simp only [Act.put, List.setIfInBounds_toArray, List.set_cons_zero, List.set_cons_succ]
            refine wpAnyH_take (i := 23) (oi := ⟨_, _, _, _, _, _⟩) (v := ?_) rfl (by kernel_rfl) (by kernel_rfl) (by kernel_rfl) (fun _ _ _ h => h) (Or.inl ⟨by rfl, ?_⟩) hS ?_
            rotate_left
            · intro w0 hs; have hc0 := (hs.cell (p := ⟨GD, 0, none⟩) hgl4).trans c04; clear hs; go_simp; try (with_reducible rfl)
            try simp only [Act.put, List.setIfInBounds_toArray, List.set_cons_zero, List.set_cons_succ]
            refine wpAnyH_take (i := 24) (oi := ⟨_, _, _, _, _, _⟩) (v := ?_) rfl (by kernel_rfl) (by kernel_rfl) (by kernel_rfl) (fun _ _ _ h => h) (Or.inl ⟨by rfl, ?_⟩) hS ?_
            rotate_left
            · intro w0 hs; have hc0 := (hs.cell (p := ⟨GD, 0, none⟩) hgl4).trans c04; clear hs; go_simp; try (with_reducible rfl)
            try simp only [Act.put, List.setIfInBounds_toArray, List.set_cons_zero, List.set_cons_succ]
            refine wpAnyH_take (i := 25) (oi := ⟨_, _, _, _, _, _⟩) (v := hv n) rfl (by kernel_rfl) (by kernel_rfl) (by kernel_rfl) (fun _ _ _ h => h) (yieldsIf_load_mid (by rfl) 26 (.tmp 71) rfl GD 1 rfl (hls n) (.array 32 5) (fun _ hs j v hv => (hs.cell (p := ⟨GD, _, none⟩) hgl4).trans (ch4 j v hv)) Try.underlying26 rfl LDI) hS ?_
            try simp only [Act.put, List.setIfInBounds_toArray, List.set_cons_zero, List.set_cons_succ]
            refine wpAnyH_take (i := 27) (oi := ⟨_, _, _, _, _, _⟩) (v := ?_) rfl (by kernel_rfl) (by kernel_rfl) (by kernel_rfl) (fun _ _ _ h => h) (Or.inl ⟨by rfl, ?_⟩) hS ?_
            rotate_left
            · intro w0 hs; have hc0 := (hs.cell (p := ⟨GD, 0, none⟩) hgl4).trans c04; clear hs; go_simp; try (with_reducible rfl)
            try simp only [Act.put, List.setIfInBounds_toArray, List.set_cons_zero, List.set_cons_succ]
            refine wpAnyH_take (i := 28) (oi := ⟨_, _, _, _, _, _⟩) (v := ?_) rfl (by kernel_rfl) (by kernel_rfl) (by kernel_rfl) (fun _ _ _ h => h) (Or.inl ⟨by rfl, ?_⟩) hS ?_
            rotate_left
            · intro w0 hs; have hc0 := (hs.cell (p := ⟨GD, 0, none⟩) hgl4).trans c04; clear hs; go_simp; try (with_reducible rfl)
            try simp only [Act.put, List.setIfInBounds_toArray, List.set_cons_zero, List.set_cons_succ]
            refine wpAnyH_take (i := 29) (oi := ⟨_, _, _, _, _, _⟩) (v := hv n) rfl (by kernel_rfl) (by kernel_rfl) (by kernel_rfl) (fun _ _ _ h => h) (yieldsIf_load_mid (by rfl) 26 (.tmp 75) rfl GD 1 rfl (hls n) (.array 32 5) (fun _ hs j v hv => (hs.cell (p := ⟨GD, _, none⟩) hgl4).trans (ch4 j v hv)) Try.underlying26 rfl LDI) hS ?_
            try simp only [Act.put, List.setIfInBounds_toArray, List.set_cons_zero, List.set_cons_succ]
            refine wpAnyH_ready (rs := [26]) (by kernel_rfl) (by simp) ?_
            refine AllReadyH.cons (o := ⟨_, _, _, _, _, _⟩) rfl (fun K hK => ?_) AllReadyH.nil
            rw [if_pos (by rfl)]
            go_step
            refine (ppeers p M2 bm o3 n _ (HV4.out.below hS) hl4 HOK.out hnn).mono ?_
            rintro e y6 ⟨va', oa', rfl, ra', -, hy6⟩
            simp only []
            refine hK.out _ _ (hS.trans (hy6.mono hS.size)) (fun hS' => ?_)
            clear hS hK
            have hS := hS'; clear hS'
            try simp only [Act.put, List.setIfInBounds_toArray, List.set_cons_zero, List.set_cons_succ]
            refine wpAnyH_ready (rs := [30]) (by kernel_rfl) (by simp) ?_
            refine AllReadyH.cons (o := ⟨_, _, _, _, _, _⟩) rfl (fun K hK => ?_) AllReadyH.nil
            rw [if_pos (by rfl)]
            go_step
            refine (qpeers q M2 o4 n _ (HQ4.out.below hS) hl4 HOK.out hnn).mono ?_
            rintro e y7 ⟨vb', ob', rfl, rb', -, hy7⟩
            simp only []
            refine hK.out _ _ (hS.trans (hy7.mono hS.size)) (fun hS' => ?_)
            clear hS hK
            have hS := hS'; clear hS'
            try simp only [Act.put, List.setIfInBounds_toArray, List.set_cons_zero, List.set_cons_succ]
            refine wpAnyH_ready (rs := [31]) (by kernel_rfl) (by simp) ?_
            refine AllReadyH.cons (o := ⟨_, _, _, _, _, _⟩) rfl (fun K hK => ?_) AllReadyH.nil
            rw [if_pos (by rfl)]
            go_step
            refine (iequal _ _ _ oa' ob' _ _ (ra'.keep (X := fun _ => False) (Keep.of_below hy7) (fun _ _ h => h)) rb' hSl).mono ?_
            rintro e y8 ⟨rfl, hy8⟩
            simp only []
            refine hK.out _ _ (hS.trans (hy8.mono hS.size)) (fun hS' => ?_)
            clear hS hK
            have hS := hS'; clear hS'
            try simp only [Act.put, List.setIfInBounds_toArray, List.set_cons_zero, List.set_cons_succ]
            refine wpAnyH_take (i := 32) (oi := ⟨_, _, _, _, _, _⟩) (v := ?_) rfl (by kernel_rfl) (by kernel_rfl) (by kernel_rfl) (fun _ _ _ h => h) (Or.inl ⟨by rfl, ?_⟩) hS ?_
            rotate_left
            · intro w0 hs; have hc0 := (hs.cell (p := ⟨GD, 0, none⟩) hgl4).trans c04; clear hs; go_simp; try (with_reducible rfl)
            try simp only [Act.put, List.setIfInBounds_toArray, List.set_cons_zero, List.set_cons_succ]
            refine wpAnyH_take (i := 33) (oi := ⟨_, _, _, _, _, _⟩) (v := ?_) rfl (by kernel_rfl) (by kernel_rfl) (by kernel_rfl) (fun _ _ _ h => h) (Or.inl ⟨by rfl, ?_⟩) hS ?_
            rotate_left
            · intro w0 hs; have hc0 := (hs.cell (p := ⟨GD, 0, none⟩) hgl4).trans c04; clear hs; go_simp; try (with_reducible rfl)
            try simp only [Act.put, List.setIfInBounds_toArray, List.set_cons_zero, List.set_cons_succ]
            refine wpAnyH_done (by kernel_rfl) ?_ _
            have HE := Lib.hid hS
            clear hS
            go_wp2
            go_roundg (len - (k + 1))
            case measure => rw [HG.out]; omega
            case rel =>
              obtain ⟨hS, ho3, ho4, hk3⟩ := H4.out
              have hsz : wC.heap.size ≤ w3.heap.size := hk3.size
              have hsz2 := HS.out.2.2.2.2.2.2.size
              have b4 := HS.out.2.2.2.2.2.2.trans (hS.below hsz2 (fun g h => (HS.out.2.2.2.2.2.1 g h).2))
              refine ⟨k + 1, hlt, by omega, rfl, rfl, M2, o3, o4, HV4.out.below HE.out, HQ4.out.below HE.out, HOK.out, hll, fun g h => ?_, fun g h => ?_, b4.trans (HE.out.mono b4.size)⟩
              · have hg3 : g < w3.heap.size := HV3.out g (.inr (.inr h))
                rcases ho3 g h with h1 | h1
                · have h5 := HS.out.2.2.1 g h1
                  refine ⟨h5.1, h5.2.1, fun e => ?_⟩
                  rcases ho4 g e with e | e
                  · exact h5.2.2 e
                  · omega
                · have h1 : wC.heap.size ≤ g := h1
                  have hql := HQ.out.lt
                  refine ⟨by omega, by omega, fun e => ?_⟩
                  rcases ho4 g e with e | e
                  · have := hql.2 g e; omega
                  · omega
              · rcases ho4 g h with e | e
                · exact HS.out.2.2.2.1 g e
                · have hvl := HV.out.lt
                  have h1 := hvl p (.inl rfl)
                  have h2 := hvl bm (.inr (.inl rfl))
                  exact ⟨by omega, by omega, by omega⟩
    · obtain rfl : k = len := by omega
      have HV9 := Lib.hid hV
      have HQ9 := Lib.hid hQ
      have hqlt := hQ.lt
      have HS9 := Lib.hid (And.intro hok (And.intro hlk (And.intro ho (And.intro ho2 (And.intro hfp (And.intro (show ∀ g, (foot3 p bm o g ∨ g = q ∨ o2 = some g) → g < wr.heap.size ∧ wB.heap.size ≤ g by
        rintro g (h | rfl | h)
        · exact ⟨hV.lt g h, (hfp g h).1⟩
        · exact ⟨hqlt.1, hq⟩
        · exact ⟨hqlt.2 g h, (ho2 g h).1⟩) hbw))))))
      clear hV hQ hok ho ho2 hfp hbw hqlt
      have hwf9 : (Lit.int .i64 (-9)).wf = true := by decide
      cases hb9 : vhas L (-9) with
      | true =>
        have PV := Lib.hid (pvote_yes p L bm o (-9) id wr.drew HV9.out.drew hwf9 (by omega) hb9)
        have QV := fun w5 h5 => qvote_yes q L o2 (-9) id w5 h5 (by omega) hb9
        have HC := Lib.hid hb9
        clear hb9
        have HSEP := Lib.hid (show ∀ g o5, (∀ g, o5 = some g → o = some g ∨ wr.heap.size ≤ g) → foot3 p bm o5 g → ¬ (g = q ∨ o2 = some g) from fun g o5 ho5 h e => by
          have hold : g < wr.heap.size := by
            rcases e with rfl | e
            · exact HQ9.out.lt.1
            · exact HQ9.out.lt.2 g e
          rcases h with rfl | rfl | h
          · rcases e with e | e
            · exact hqp e.symm
            · exact (HS9.out.2.2.2.1 _ e).2.1 rfl
          · rcases e with e | e
            · exact hqb e.symm
            · exact (HS9.out.2.2.2.1 _ e).2.2 rfl
          · rcases ho5 g h with h | h
            · rcases e with e | e
              · exact (HS9.out.2.2.1 g h).2.1 e
              · exact (HS9.out.2.2.1 g h).2.2 e
            · omega)
        have hsep : ∀ g {o5 : Option Nat}, (∀ g, o5 = some g → o = some g ∨ wr.heap.size ≤ g) → foot3 p bm o5 g → (g = q ∨ o2 = some g) → False := fun g o5 => HSEP.out g o5
        have hK9 := HS9.out.2.2.2.2.2.2
        have hg9 : G0 < wr.heap.size := Nat.lt_of_lt_of_le hg0 hK9.size
        have hgn9 : ¬ (foot3 p bm o G0 ∨ G0 = q ∨ o2 = some G0) := fun h => by have := (HS9.out.2.2.2.2.2.1 _ h).2; omega
        have LD9 : wr.rangeAt G0 0 (hls id) := blk_range (BX.out.beyond hK9)
        clear hK9
        go_upto_region 13 with fail
        refine wp_region_held_drew (S := fun w' => Keep (fun g => foot3 p bm o g ∨ g = q ∨ o2 = some g) wr w') (by kernel_rfl) ((Keep.refl _ _).drew) (fun hS => ?_)
        refine wpAnyH_take (i := 0) (oi := ⟨_, _, _, _, _, _⟩) (v := ?_) rfl (by kernel_rfl) (by kernel_rfl) (by kernel_rfl) (fun _ _ _ h => h) (Or.inl ⟨by rfl, ?_⟩) hS ?_
        rotate_left
        · intro w0 hs; clear hs; go_simp; try (with_reducible rfl)
        try simp only [Act.put, List.setIfInBounds_toArray, List.set_cons_zero, List.set_cons_succ]
        refine wpAnyH_take (i := 1) (oi := ⟨_, _, _, _, _, _⟩) (v := hv id) rfl (by kernel_rfl) (by kernel_rfl) (by kernel_rfl) (fun _ _ _ h => h) (yieldsIf_load_mid (by rfl) 26 (.tmp 2) rfl G0 0 rfl (hls id) (.array 32 5) (fun _ hs j v hv => (hs.cell (p := ⟨G0, _, none⟩) hg9 hgn9).trans (LD9 j v hv)) Try.underlying26 rfl LDI) hS ?_
        try simp only [Act.put, List.setIfInBounds_toArray, List.set_cons_zero, List.set_cons_succ]
        refine wpAnyH_take (i := 3) (oi := ⟨_, _, _, _, _, _⟩) (v := ?_) rfl (by kernel_rfl) (by kernel_rfl) (by kernel_rfl) (fun _ _ _ h => h) (Or.inl ⟨by rfl, ?_⟩) hS ?_
        rotate_left
        · intro w0 hs; clear hs; go_simp; try (with_reducible rfl)
        try simp only [Act.put, List.setIfInBounds_toArray, List.set_cons_zero, List.set_cons_succ]
        refine wpAnyH_take (i := 4) (oi := ⟨_, _, _, _, _, _⟩) (v := hv id) rfl (by kernel_rfl) (by kernel_rfl) (by kernel_rfl) (fun _ _ _ h => h) (yieldsIf_load_mid (by rfl) 26 (.tmp 2) rfl G0 0 rfl (hls id) (.array 32 5) (fun _ hs j v hv => (hs.cell (p := ⟨G0, _, none⟩) hg9 hgn9).trans (LD9 j v hv)) Try.underlying26 rfl LDI) hS ?_
        try simp only [Act.put, List.setIfInBounds_toArray, List.set_cons_zero, List.set_cons_succ]
        refine wpAnyH_ready (rs := [2]) (by kernel_rfl) (by simp) ?_
        refine AllReadyH.cons (o := ⟨_, _, _, _, _, _⟩) rfl (fun K hK => ?_) AllReadyH.nil
        rw [if_pos (by rfl)]
        go_step
        refine PV.out.mono ?_
        rintro e w5 ⟨rfl, o5, hv5, ho5, hk5⟩
        have HQ5 := Lib.hid ((HQ9.out.below ((Below.refl _ _).drew)).keep hk5 (fun h => (HS9.out.2.2.2.2.1 _ h).2.1 rfl) (fun g hg h => (HS9.out.2.2.2.2.1 _ h).2.2 hg))
        simp only []
        refine hK.out _ _ ((Keep.refl _ wr).drew.trans (hk5.mono fun _ h => .inl h)) (fun hS' => ?_)
        clear hS hK
        have hS := hS'; clear hS'
        try simp only [Act.put, List.setIfInBounds_toArray, List.set_cons_zero, List.set_cons_succ]
        refine wpAnyH_ready (rs := [5]) (by kernel_rfl) (by simp) ?_
        refine AllReadyH.cons (o := ⟨_, _, _, _, _, _⟩) rfl (fun K hK => ?_) AllReadyH.nil
        rw [if_pos (by rfl)]
        go_step
        refine (QV w5 HQ5.out).mono ?_
        rintro e w6 ⟨rfl, o6, hq6, ho6, hk6⟩
        have HV6 := Lib.hid (hv5.keep hk6 (fun g h e => hsep g ho5 h e))
        simp only []
        refine hK.out _ _ (hS.trans' hk6 (fun _ h => .inl (.inr h))) (fun hS' => ?_)
        clear hS hK
        have hS := hS'; clear hS'
        try simp only [Act.put, List.setIfInBounds_toArray, List.set_cons_zero, List.set_cons_succ]
        refine wpAnyH_take (i := 6) (oi := ⟨_, _, _, _, _, _⟩) (v := ?_) rfl (by kernel_rfl) (by kernel_rfl) (by kernel_rfl) (fun _ _ _ h => h) (Or.inl ⟨by rfl, ?_⟩) hS ?_
        rotate_left
        · intro w0 hs; clear hs; go_simp; try (with_reducible rfl)
        try simp only [Act.put, List.setIfInBounds_toArray, List.set_cons_zero, List.set_cons_succ]
        refine wpAnyH_take (i := 7) (oi := ⟨_, _, _, _, _, _⟩) (v := ?_) rfl (by kernel_rfl) (by kernel_rfl) (by kernel_rfl) (fun _ _ _ h => h) (Or.inl ⟨by rfl, ?_⟩) hS ?_
        rotate_left
        · intro w0 hs; clear hs; go_simp; try (with_reducible rfl)
        try simp only [Act.put, List.setIfInBounds_toArray, List.set_cons_zero, List.set_cons_succ]
        refine wpAnyH_take (i := 8) (oi := ⟨_, _, _, _, _, _⟩) (v := ?_) rfl (by kernel_rfl) (by kernel_rfl) (by kernel_rfl) (fun _ _ _ h => h) (Or.inl ⟨by rfl, ?_⟩) hS ?_
        rotate_left
        · intro w0 hs; clear hs; go_simp; try (with_reducible rfl)
        try simp only [Act.put, List.setIfInBounds_toArray, List.set_cons_zero, List.set_cons_succ]
        refine wpAnyH_ready (rs := [9]) (by kernel_rfl) (by simp) ?_
        refine AllReadyH.cons (o := ⟨_, _, _, _, _, _⟩) rfl (fun K hK => ?_) AllReadyH.nil
        rw [if_pos (by rfl)]
        go_step
        have PA := phas p L bm o5 (-9) _ HV6.out hwf9
        rw [HC.out] at PA
        refine PA.mono ?_
        rintro e w7 ⟨rfl, hb7⟩
        simp only []
        refine hK.out _ _ (hS.trans (Keep.of_below hb7)) (fun hS' => ?_)
        clear hS hK
        have hS := hS'; clear hS'
        try simp only [Act.put, List.setIfInBounds_toArray, List.set_cons_zero, List.set_cons_succ]
        refine wpAnyH_take (i := 10) (oi := ⟨_, _, _, _, _, _⟩) (v := ?_) rfl (by kernel_rfl) (by kernel_rfl) (by kernel_rfl) (fun _ _ _ h => h) (Or.inl ⟨by rfl, ?_⟩) hS ?_
        rotate_left
        · intro w0 hs; clear hs; go_simp; try (with_reducible rfl)
        try simp only [Act.put, List.setIfInBounds_toArray, List.set_cons_zero, List.set_cons_succ]
        refine wpAnyH_take (i := 11) (oi := ⟨_, _, _, _, _, _⟩) (v := ?_) rfl (by kernel_rfl) (by kernel_rfl) (by kernel_rfl) (fun _ _ _ h => h) (Or.inl ⟨by rfl, ?_⟩) hS ?_
        rotate_left
        · intro w0 hs; clear hs; go_simp; try (with_reducible rfl)
        try simp only [Act.put, List.setIfInBounds_toArray, List.set_cons_zero, List.set_cons_succ]
        refine wpAnyH_done (by kernel_rfl) ?_ _
        have R9 := Lib.hid (HS9.out.2.2.2.2.2.2.trans (hS.below HS9.out.2.2.2.2.2.2.size (fun g h => (HS9.out.2.2.2.2.2.1 g h).2)))
        clear hS
        go_wp2
        go_ret
        subst hgw
        exact ⟨rfl, K0.out.trans (R9.out.mono K0.out.size)⟩
      | false =>
        have PV := Lib.hid (pvote_no p L bm o (-9) id wr.drew HV9.out.drew hwf9 (by omega) hb9)
        have QV := fun w5 h5 => qvote_no q L o2 (-9) id w5 h5 (by omega) hb9
        have HC := Lib.hid (show vhas (L ++ [((-9 : Int), id)]) (-9) = true from by simp [vhas])
        clear hb9
        have HSEP := Lib.hid (show ∀ g o5, (∀ g, o5 = some g → o = some g ∨ wr.heap.size ≤ g) → foot3 p bm o5 g → ¬ (g = q ∨ o2 = some g) from fun g o5 ho5 h e => by
          have hold : g < wr.heap.size := by
            rcases e with rfl | e
            · exact HQ9.out.lt.1
            · exact HQ9.out.lt.2 g e
          rcases h with rfl | rfl | h
          · rcases e with e | e
            · exact hqp e.symm
            · exact (HS9.out.2.2.2.1 _ e).2.1 rfl
          · rcases e with e | e
            · exact hqb e.symm
            · exact (HS9.out.2.2.2.1 _ e).2.2 rfl
          · rcases ho5 g h with h | h
            · rcases e with e | e
              · exact (HS9.out.2.2.1 g h).2.1 e
              · exact (HS9.out.2.2.1 g h).2.2 e
            · omega)
        have hsep : ∀ g {o5 : Option Nat}, (∀ g, o5 = some g → o = some g ∨ wr.heap.size ≤ g) → foot3 p bm o5 g → (g = q ∨ o2 = some g) → False := fun g o5 => HSEP.out g o5
        have hK9 := HS9.out.2.2.2.2.2.2
        have hg9 : G0 < wr.heap.size := Nat.lt_of_lt_of_le hg0 hK9.size
        have hgn9 : ¬ (foot3 p bm o G0 ∨ G0 = q ∨ o2 = some G0) := fun h => by have := (HS9.out.2.2.2.2.2.1 _ h).2; omega
        have LD9 : wr.rangeAt G0 0 (hls id) := blk_range (BX.out.beyond hK9)
        clear hK9
        go_upto_region 13 with fail
        refine wp_region_held_drew (S := fun w' => Keep (fun g => foot3 p bm o g ∨ g = q ∨ o2 = some g) wr w') (by kernel_rfl) ((Keep.refl _ _).drew) (fun hS => ?_)
        refine wpAnyH_take (i := 0) (oi := ⟨_, _, _, _, _, _⟩) (v := ?_) rfl (by kernel_rfl) (by kernel_rfl) (by kernel_rfl) (fun _ _ _ h => h) (Or.inl ⟨by rfl, ?_⟩) hS ?_
        rotate_left
        · intro w0 hs; clear hs; go_simp; try (with_reducible rfl)
        try simp only [Act.put, List.setIfInBounds_toArray, List.set_cons_zero, List.set_cons_succ]
        refine wpAnyH_take (i := 1) (oi := ⟨_, _, _, _, _, _⟩) (v := hv id) rfl (by kernel_rfl) (by kernel_rfl) (by kernel_rfl) (fun _ _ _ h => h) (yieldsIf_load_mid (by rfl) 26 (.tmp 2) rfl G0 0 rfl (hls id) (.array 32 5) (fun _ hs j v hv => (hs.cell (p := ⟨G0, _, none⟩) hg9 hgn9).trans (LD9 j v hv)) Try.underlying26 rfl LDI) hS ?_
        try simp only [Act.put, List.setIfInBounds_toArray, List.set_cons_zero, List.set_cons_succ]
        refine wpAnyH_take (i := 3) (oi := ⟨_, _, _, _, _, _⟩) (v := ?_) rfl (by kernel_rfl) (by kernel_rfl) (by kernel_rfl) (fun _ _ _ h => h) (Or.inl ⟨by rfl, ?_⟩) hS ?_
        rotate_left
        · intro w0 hs; clear hs; go_simp; try (with_reducible rfl)
        try simp only [Act.put, List.setIfInBounds_toArray, List.set_cons_zero, List.set_cons_succ]
        refine wpAnyH_take (i := 4) (oi := ⟨_, _, _, _, _, _⟩) (v := hv id) rfl (by kernel_rfl) (by kernel_rfl) (by kernel_rfl) (fun _ _ _ h => h) (yieldsIf_load_mid (by rfl) 26 (.tmp 2) rfl G0 0 rfl (hls id) (.array 32 5) (fun _ hs j v hv => (hs.cell (p := ⟨G0, _, none⟩) hg9 hgn9).trans (LD9 j v hv)) Try.underlying26 rfl LDI) hS ?_
        try simp only [Act.put, List.setIfInBounds_toArray, List.set_cons_zero, List.set_cons_succ]
        refine wpAnyH_ready (rs := [2]) (by kernel_rfl) (by simp) ?_
        refine AllReadyH.cons (o := ⟨_, _, _, _, _, _⟩) rfl (fun K hK => ?_) AllReadyH.nil
        rw [if_pos (by rfl)]
        go_step
        refine PV.out.mono ?_
        rintro e w5 ⟨rfl, o5, hv5, ho5, hk5⟩
        have HQ5 := Lib.hid ((HQ9.out.below ((Below.refl _ _).drew)).keep hk5 (fun h => (HS9.out.2.2.2.2.1 _ h).2.1 rfl) (fun g hg h => (HS9.out.2.2.2.2.1 _ h).2.2 hg))
        simp only []
        refine hK.out _ _ ((Keep.refl _ wr).drew.trans (hk5.mono fun _ h => .inl h)) (fun hS' => ?_)
        clear hS hK
        have hS := hS'; clear hS'
        try simp only [Act.put, List.setIfInBounds_toArray, List.set_cons_zero, List.set_cons_succ]
        refine wpAnyH_ready (rs := [5]) (by kernel_rfl) (by simp) ?_
        refine AllReadyH.cons (o := ⟨_, _, _, _, _, _⟩) rfl (fun K hK => ?_) AllReadyH.nil
        rw [if_pos (by rfl)]
        go_step
        refine (QV w5 HQ5.out).mono ?_
        rintro e w6 ⟨rfl, o6, hq6, ho6, hk6⟩
        have HV6 := Lib.hid (hv5.keep hk6 (fun g h e => hsep g ho5 h e))
        simp only []
        refine hK.out _ _ (hS.trans' hk6 (fun _ h => .inl (.inr h))) (fun hS' => ?_)
        clear hS hK
        have hS := hS'; clear hS'
        try simp only [Act.put, List.setIfInBounds_toArray, List.set_cons_zero, List.set_cons_succ]
        refine wpAnyH_take (i := 6) (oi := ⟨_, _, _, _, _, _⟩) (v := ?_) rfl (by kernel_rfl) (by kernel_rfl) (by kernel_rfl) (fun _ _ _ h => h) (Or.inl ⟨by rfl, ?_⟩) hS ?_
        rotate_left
        · intro w0 hs; clear hs; go_simp; try (with_reducible rfl)
        try simp only [Act.put, List.setIfInBounds_toArray, List.set_cons_zero, List.set_cons_succ]
        refine wpAnyH_take (i := 7) (oi := ⟨_, _, _, _, _, _⟩) (v := ?_) rfl (by kernel_rfl) (by kernel_rfl) (by kernel_rfl) (fun _ _ _ h => h) (Or.inl ⟨by rfl, ?_⟩) hS ?_
        rotate_left
        · intro w0 hs; clear hs; go_simp; try (with_reducible rfl)
        try simp only [Act.put, List.setIfInBounds_toArray, List.set_cons_zero, List.set_cons_succ]
        refine wpAnyH_take (i := 8) (oi := ⟨_, _, _, _, _, _⟩) (v := ?_) rfl (by kernel_rfl) (by kernel_rfl) (by kernel_rfl) (fun _ _ _ h => h) (Or.inl ⟨by rfl, ?_⟩) hS ?_
        rotate_left
        · intro w0 hs; clear hs; go_simp; try (with_reducible rfl)
        try simp only [Act.put, List.setIfInBounds_toArray, List.set_cons_zero, List.set_cons_succ]
        refine wpAnyH_ready (rs := [9]) (by kernel_rfl) (by simp) ?_
        refine AllReadyH.cons (o := ⟨_, _, _, _, _, _⟩) rfl (fun K hK => ?_) AllReadyH.nil
        rw [if_pos (by rfl)]
        go_step
        have PA := phas p (L ++ [((-9 : Int), id)]) bm o5 (-9) _ HV6.out hwf9
        rw [HC.out] at PA
        refine PA.mono ?_
        rintro e w7 ⟨rfl, hb7⟩
        simp only []
        refine hK.out _ _ (hS.trans (Keep.of_below hb7)) (fun hS' => ?_)
        clear hS hK
        have hS := hS'; clear hS'
        try simp only [Act.put, List.setIfInBounds_toArray, List.set_cons_zero, List.set_cons_succ]
        refine wpAnyH_take (i := 10) (oi := ⟨_, _, _, _, _, _⟩) (v := ?_) rfl (by kernel_rfl) (by kernel_rfl) (by kernel_rfl) (fun _ _ _ h => h) (Or.inl ⟨by rfl, ?_⟩) hS ?_
        rotate_left
        · intro w0 hs; clear hs; go_simp; try (with_reducible rfl)
        try simp only [Act.put, List.setIfInBounds_toArray, List.set_cons_zero, List.set_cons_succ]
        refine wpAnyH_take (i := 11) (oi := ⟨_, _, _, _, _, _⟩) (v := ?_) rfl (by kernel_rfl) (by kernel_rfl) (by kernel_rfl) (fun _ _ _ h => h) (Or.inl ⟨by rfl, ?_⟩) hS ?_
        rotate_left
        · intro w0 hs; clear hs; go_simp; try (with_reducible rfl)
        try simp only [Act.put, List.setIfInBounds_toArray, List.set_cons_zero, List.set_cons_succ]
        refine wpAnyH_done (by kernel_rfl) ?_ _
        have R9 := Lib.hid (HS9.out.2.2.2.2.2.2.trans (hS.below HS9.out.2.2.2.2.2.2.size (fun g h => (HS9.out.2.2.2.2.2.1 g h).2)))
        clear hS
        go_wp2
        go_ret
        subst hgw
        exact ⟨rfl, K0.out.trans (R9.out.mono K0.out.size)⟩
end Go.Proofs.Ytgedpgdefafofaa
