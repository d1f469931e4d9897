/- The walks of layer 18: Vote, Leave. -/
import Derived.Test.YtgedpgdefafofaaVotesA
namespace Go.Proofs.Ytgedpgdefafofaa
open Go Go.RowKit
set_option linter.unusedSimpArgs false

theorem vmap_none {L : VL} {x : Int} (h : vhas L x = false) : vmap L x = none := by
  have := vmap_has L x
  rw [h] at this
  simpa using this
theorem vmap_snoc {L : VL} {x : Int} (h : vhas L x = false) (n : Nat) : vmap (L ++ [(x, n)]) = fun y => if y = x then some (hv n) else vmap L y := by
  funext y
  unfold vmap
  rw [List.find?_append]
  by_cases hy : y = x
  · subst hy
    rw [if_pos rfl]
    have : L.find? (fun e => e.1 == y) = none := by
      have := vmap_none h
      unfold vmap at this
      simpa using this
    rw [this]; simp
  · rw [if_neg hy]
    have e : (([(x, n)] : VL).find? fun e => e.1 == y) = none := by
      simp [List.find?, show (x == y) = false from beq_false_of_ne (fun h => hy h.symm)]
    rw [e]
    simp
theorem intinfo : (Try.prog.info? 3).map (fun i => (i.zero, i.size, i.bytes)) = some (some (.int .i64 0), 1, 8) := by kernel_rfl
/-- what a call leaves of votes -/
def VGrew (w w' : World) (p bm : Nat) (L : VL) (o : Option Nat) : Prop := ∃ o', VAt w' p L bm o' ∧ (∀ g, o' = some g → o = some g ∨ w.heap.size ≤ g) ∧ Keep (foot3 p bm o) w w'
theorem hashInfo : (Try.prog.info? 26).map (·.size) = some 32 := by kernel_rfl
theorem blk_range {w : World} {g n : Nat} {t : TypeId} (h : Blk w g (hcs n) t) : w.rangeAt g 0 (hls n) := fun j v hv => by
  rw [Nat.zero_add, h.cell]; simpa [hcs] using hv
set_option maxHeartbeats 1600000 in
theorem pvote (p : Nat) (L : VL) (bm : Nat) (o : Option Nat) (x : Int) (n : Nat) (w : World) (h : VAt w p L bm o) (hx : (Lit.int .i64 x).wf = true) (hl : L.length ≤ 1000000) :
    Calls Try.prog 7 #[.pointer (some ⟨p, 0, none⟩), .int .i64 x, hv n] w fun e w' => e = .returned (.int .i64 (if vhas L x then 200 else 0)) ∧ VGrew w w' p bm (if vhas L x then L else L ++ [(x, n)]) o := by
  have hlt := h.lt
  have h0 := h.below ((Below.refl w.heap.size w).alloc (Nat.le_refl _) (.cells (hcs n) 26))
  have K0 := Lib.hid ((Keep.refl (foot3 p bm o) w).alloc (.cells (hcs n) 26))
  have hB := Lib.hid (Blk.new w (hcs n) 26)
  have PH := Lib.hid (phas p L bm o x _ h0 hx)
  have H0 := Lib.hid h0
  obtain ⟨id, v, h1, h2, h3, h4⟩ := H0.out
  have c32 := h1.cell 32
  rw [vcs_32] at c32
  have PN := Lib.hid (pnone p bm _ c32)
  have HX := Lib.hid hx
  clear h1 h2 h3 h4 h0 hx h c32
  go_enter Try.func7, Try.ntmps7
  go_upto_region 1 with fail
  generalize w.alloc (.cells (hcs n) 26) = w0 at *
  go_wp2_with fail
  refine PN.out.mono ?_
  rintro e w1 ⟨rfl, rfl⟩
  go_wp2_with fail
  refine PH.out.mono ?_
  rintro e w2 ⟨rfl, hb⟩
  have H2 := Lib.hid (H0.out.below hb)
  have HB := Lib.hid (hB.out.beyond hb)
  have K2 := Lib.hid (K0.out.trans (Keep.of_below hb))
  clear hb
  cases hv' : vhas L x with
  | true =>
    go_wp2
    go_ret
    exact ⟨rfl, o, H2.out, fun g h => .inl h, K2.out⟩
  | false =>
    obtain ⟨id, v, h1, h2, h3, n1, n2, n3⟩ := H2.out
    have hnone := vmap_none hv'
    obtain ⟨w3, hrunS, m3, k3⟩ := h2.drew.store Try.underlying3 Try.underlying46 (by unfold maxLen; omega) HX.out (hv n)
    rw [hnone] at m3
    have k3' : Keep (fun k => k = bm) w2 w3 := ((Keep.refl _ w2).drew).trans k3
    have b3 := k3'.blk h1 (fun e => n1 e.symm)
    have r3 := h3.keep k3' (fun g hg e => n3 (by rw [hg, e]))
    obtain ⟨i0, hi, hz0, hz1, hz2⟩ := info_parts intinfo
    obtain ⟨g, cap, w4, hrunA, r4, hg, k4⟩ := rowV_append1 (P := Try.prog) 35 35 i0 (.int .i64 0) Try.underlying35 hi hz0 hz1 hz2 rfl r3 (.int .i64 x) rfl (by unfold maxLen; omega) (by omega)
    have hbm3 := m3.lt
    have gp : g ≠ p := by
      rcases hg with hg | hg
      · intro e; exact n2 (by rw [hg, e])
      · have := b3.lt; omega
    have gbm : g ≠ bm := by
      rcases hg with hg | hg
      · intro e; exact n3 (by rw [hg, e])
      · omega
    have b4 := k4.blk b3 n2
    have m4 := m3.keep k4 n3
    have c32 := h1.drew.cell 32
    rw [vcs_32] at c32
    have c33 := b3.cell 33
    rw [vcs_33] at c33
    have f33 := b4.free 33
    have s33 := b4.cell 33
    rw [vcs_33] at s33
    obtain ⟨vp, vc, rfl, _⟩ := h3.form
    have ld := HB.out.drew
    have H4 := Lib.hid (And.intro m4 (And.intro r4 (And.intro b4 (And.intro hg (And.intro gp (And.intro gbm (And.intro n1 (And.intro k3' k4))))))))
    clear h1 h2 h3 n1 n2 n3 m3 k3 k3' b3 r3 hg k4 b4 m4 r4 gp gbm hnone hbm3
    have LDR := blk_range ld
    have LDI := hashInfo
    clear ld
    go_upto_region 5 with fail
    refine wp_region_last 6 (fun w' => w' = w2.drew) (by kernel_rfl) rfl (fun hS => ?_)
    refine wpAnyL_take (i := 0) (oi := ⟨_, _, _, _, _, _⟩) (v := ?_) rfl (by kernel_rfl) (by kernel_rfl) (by kernel_rfl) (by kernel_rfl) (fun _ _ _ h => h) (Or.inl ⟨by rfl, ?_⟩) hS ?_
    rotate_left
    · intro w0 hs; subst hs; go_simp; try (with_reducible rfl)
    try simp only [Act.put, List.setIfInBounds_toArray, List.set_cons_zero, List.set_cons_succ]
    refine wpAnyL_take (i := 1) (oi := ⟨_, _, _, _, _, _⟩) (v := ?_) rfl (by kernel_rfl) (by kernel_rfl) (by kernel_rfl) (by kernel_rfl) (fun _ _ _ h => h) (Or.inl ⟨by rfl, ?_⟩) hS ?_
    rotate_left
    · intro w0 hs; subst hs; go_simp; try (with_reducible rfl)
    try simp only [Act.put, List.setIfInBounds_toArray, List.set_cons_zero, List.set_cons_succ]
    refine wpAnyL_take (i := 2) (oi := ⟨_, _, _, _, _, _⟩) (v := ?_) rfl (by kernel_rfl) (by kernel_rfl) (by kernel_rfl) (by kernel_rfl) (fun _ _ _ h => h) (Or.inl ⟨by rfl, ?_⟩) hS ?_
    rotate_left
    · intro w0 hs; subst hs; go_simp; try (with_reducible rfl)
    try simp only [Act.put, List.setIfInBounds_toArray, List.set_cons_zero, List.set_cons_succ]
    refine wpAnyL_take (i := 3) (oi := ⟨_, _, _, _, _, _⟩) (v := ?_) rfl (by kernel_rfl) (by kernel_rfl) (by kernel_rfl) (by kernel_rfl) (fun _ _ _ h => h) (Or.inl ⟨by rfl, ?_⟩) hS ?_
    rotate_left
    · intro w0 hs; subst hs; go_simp; try (with_reducible rfl)
    try simp only [Act.put, List.setIfInBounds_toArray, List.set_cons_zero, List.set_cons_succ]
    refine wpAnyL_take (i := 4) (oi := ⟨_, _, _, _, _, _⟩) (v := ?_) rfl (by kernel_rfl) (by kernel_rfl) (by kernel_rfl) (by kernel_rfl) (fun _ _ _ h => h) (Or.inl ⟨by rfl, ?_⟩) hS ?_
    rotate_left
    · intro w0 hs; subst hs; go_simp; try (with_reducible rfl)
    try simp only [Act.put, List.setIfInBounds_toArray, List.set_cons_zero, List.set_cons_succ]
    refine wpAnyL_take (i := 5) (oi := ⟨_, _, _, _, _, _⟩) (v := hv n) rfl (by kernel_rfl) (by kernel_rfl) (by kernel_rfl) (by kernel_rfl) (fun _ _ _ h => h) (yieldsIf_load_mid (by rfl) 26 (.tmp 5) rfl w.heap.size 0 rfl (hls n) (.array 32 5) (fun _ hs => hs ▸ LDR) Try.underlying26 rfl LDI) hS ?_
    try simp only [Act.put, List.setIfInBounds_toArray, List.set_cons_zero, List.set_cons_succ]
    refine wpAnyL_one (i := 6) (oi := ⟨_, _, _, _, _, _⟩) rfl (by kernel_rfl) (fun K hK => ?_)
    rw [if_pos (by rfl)]
    go_simp
    refine hK.out _ _ (.inl rfl) ?_
    clear hK
    try simp only [Act.put, List.setIfInBounds_toArray, List.set_cons_zero, List.set_cons_succ]
    refine wpAnyL_done (by kernel_rfl) ?_ _
    go_wp2_with (at_builtin; refine wpl_append rfl _ _ 35 rfl rfl rfl hrunA ?_)
    go_ret
    obtain ⟨m4, r4, b4, hg, gp, gbm, n1, k3, k4⟩ := H4.out
    have K5 := (Keep.refl (fun k => k = p) w4).set (p := ⟨p, 33, none⟩) (.inl rfl) (.slice (some ⟨g, 0, none⟩) (L.length + 1) cap)
    have b5 := b4.set 33 (.slice (some ⟨g, 0, none⟩) (L.length + 1) cap)
    rw [vcs_set] at b5
    refine ⟨rfl, some g, ⟨id, _, b5, ?_, ?_, n1, fun e => gp (by cases e; rfl), fun e => gbm (by cases e; rfl)⟩, fun g' e => ?_, ?_⟩
    · rw [vmap_snoc hv']
      have := m4.keep K5 n1
      simpa using this
    · have := r4.keep K5 (fun k hk e => gp (by cases hk; exact e))
      simpa using this
    · cases e
      exact hg.imp (fun h => h) (fun h => Nat.le_trans K2.out.size (Nat.le_trans k3.size h))
    · refine ((K2.out.trans (k3.mono fun k e => .inr (.inl e))).trans (k4.mono fun k e => .inr (.inr e))).trans (K5.mono fun k e => .inl e)
end Go.Proofs.Ytgedpgdefafofaa
