import Derived.Test.YtbjbjgfjaopibaaGreatDoorLv5
section
/- SHA-256, the program's: block. -/
namespace Go.Proofs.YtbjbjgfjaopibaaGreatDoor
open Go Go.RowKit
set_option linter.unusedSimpArgs false
set_option linter.unusedVariables false
set_option maxRecDepth 100000

/-- the program's tables hold what its text lays -/
def Glob (w : World) : Prop := (∀ i, i < 8 → w.cell? ⟨0, i, none⟩ = some (.int .u32 (iv (s0 i)))) ∧ (∀ i, i < 64 → w.cell? ⟨1, i, none⟩ = some (.int .u32 (iv (kw i))))
theorem Glob.below {w w' : World} (h : Glob w) (hb : Below w.heap.size w w') : Glob w' :=
  ⟨fun i hi => (hb.cell (p := ⟨0, i, none⟩) (cell_lt (h.1 i hi))).trans (h.1 i hi), fun i hi => (hb.cell (p := ⟨1, i, none⟩) (cell_lt (h.2 i hi))).trans (h.2 i hi)⟩
theorem Glob.keep' {h : Nat} {w w' : World} (g : Glob w) (hk : Keep (fun k => k = h) w w') (hn : h ≠ 0 ∧ h ≠ 1) : Glob w' :=
  ⟨fun i hi => (hk.cell (p := ⟨0, i, none⟩) (cell_lt (g.1 i hi)) (fun e => hn.1 e.symm)).trans (g.1 i hi), fun i hi => (hk.cell (p := ⟨1, i, none⟩) (cell_lt (g.2 i hi)) (fun e => hn.2 e.symm)).trans (g.2 i hi)⟩
theorem Glob.drew {w : World} (g : Glob w) : Glob w.drew := g
theorem wcl0 (m : Nat → B32) : #[.int .u32 0, .int .u32 0, .int .u32 0, .int .u32 0, .int .u32 0, .int .u32 0, .int .u32 0, .int .u32 0, .int .u32 0, .int .u32 0, .int .u32 0, .int .u32 0, .int .u32 0, .int .u32 0, .int .u32 0, .int .u32 0, .int .u32 0, .int .u32 0, .int .u32 0, .int .u32 0, .int .u32 0, .int .u32 0, .int .u32 0, .int .u32 0, .int .u32 0, .int .u32 0, .int .u32 0, .int .u32 0, .int .u32 0, .int .u32 0, .int .u32 0, .int .u32 0, .int .u32 0, .int .u32 0, .int .u32 0, .int .u32 0, .int .u32 0, .int .u32 0, .int .u32 0, .int .u32 0, .int .u32 0, .int .u32 0, .int .u32 0, .int .u32 0, .int .u32 0, .int .u32 0, .int .u32 0, .int .u32 0, .int .u32 0, .int .u32 0, .int .u32 0, .int .u32 0, .int .u32 0, .int .u32 0, .int .u32 0, .int .u32 0, .int .u32 0, .int .u32 0, .int .u32 0, .int .u32 0, .int .u32 0, .int .u32 0, .int .u32 0, .int .u32 0] = (wcl m 0).toArray := by
  show _ = ((List.range 64).map fun j => Value.int .u32 (iv (if j < 0 then shw m j else 0))).toArray
  rw [List.map_congr_left (g := fun _ => Value.int .u32 0) (fun j _ => by rw [if_neg (by omega)]; rfl)]
  rfl
set_option maxHeartbeats 6400000 in
theorem pblock (hb : Nat) (σ : Nat → B32) (P : Nat → Int) (n : Nat) (x : Nat → Int) (hx : ∀ j, j < 64 → 0 ≤ x j ∧ x j ≤ 255) (w : World) (G : Glob w) (h : Blk w hb (hcl σ P n).toArray 140) :
    Calls Tryz.prog 108 #[.pointer (some ⟨hb, 1, none⟩), .agg (u8c x 64).toArray] w fun e w' => e = .returned (.tuple #[]) ∧ Blk w' hb (hcl (blockS σ (msgX x)) P n).toArray 140 ∧ Keep (fun k => k = hb) w w' := by
  have L := two_new w (u8c x 64).toArray #[.int .u32 0, .int .u32 0, .int .u32 0, .int .u32 0, .int .u32 0, .int .u32 0, .int .u32 0, .int .u32 0, .int .u32 0, .int .u32 0, .int .u32 0, .int .u32 0, .int .u32 0, .int .u32 0, .int .u32 0, .int .u32 0, .int .u32 0, .int .u32 0, .int .u32 0, .int .u32 0, .int .u32 0, .int .u32 0, .int .u32 0, .int .u32 0, .int .u32 0, .int .u32 0, .int .u32 0, .int .u32 0, .int .u32 0, .int .u32 0, .int .u32 0, .int .u32 0, .int .u32 0, .int .u32 0, .int .u32 0, .int .u32 0, .int .u32 0, .int .u32 0, .int .u32 0, .int .u32 0, .int .u32 0, .int .u32 0, .int .u32 0, .int .u32 0, .int .u32 0, .int .u32 0, .int .u32 0, .int .u32 0, .int .u32 0, .int .u32 0, .int .u32 0, .int .u32 0, .int .u32 0, .int .u32 0, .int .u32 0, .int .u32 0, .int .u32 0, .int .u32 0, .int .u32 0, .int .u32 0, .int .u32 0, .int .u32 0, .int .u32 0, .int .u32 0] 138 143
  have hhl := h.lt
  have HB0 := Lib.hid (h.beyond L.2.2)
  have HG0 := Lib.hid (G.below L.2.2)
  have HX := Lib.hid hx
  have hg0 := cell_lt (G.1 0 (by decide))
  have hg1 := cell_lt (G.2 0 (by decide))
  clear h G hx
  go_enter Tryz.func108, Tryz.ntmps108
  go_upto_region 2 with fail
  generalize ((w.alloc (.cells (u8c x 64).toArray 138)).alloc (.cells #[.int .u32 0, .int .u32 0, .int .u32 0, .int .u32 0, .int .u32 0, .int .u32 0, .int .u32 0, .int .u32 0, .int .u32 0, .int .u32 0, .int .u32 0, .int .u32 0, .int .u32 0, .int .u32 0, .int .u32 0, .int .u32 0, .int .u32 0, .int .u32 0, .int .u32 0, .int .u32 0, .int .u32 0, .int .u32 0, .int .u32 0, .int .u32 0, .int .u32 0, .int .u32 0, .int .u32 0, .int .u32 0, .int .u32 0, .int .u32 0, .int .u32 0, .int .u32 0, .int .u32 0, .int .u32 0, .int .u32 0, .int .u32 0, .int .u32 0, .int .u32 0, .int .u32 0, .int .u32 0, .int .u32 0, .int .u32 0, .int .u32 0, .int .u32 0, .int .u32 0, .int .u32 0, .int .u32 0, .int .u32 0, .int .u32 0, .int .u32 0, .int .u32 0, .int .u32 0, .int .u32 0, .int .u32 0, .int .u32 0, .int .u32 0, .int .u32 0, .int .u32 0, .int .u32 0, .int .u32 0, .int .u32 0, .int .u32 0, .int .u32 0, .int .u32 0] 143)) = w2 at *
  rw [wcl0 (msgX x)] at L
  obtain ⟨L1, L2, L3⟩ := L
  have HP := Lib.hid L1
  have HW := Lib.hid L2
  have HK := Lib.hid L3
  clear L1 L2 L3
  generalize hgw : w.heap.size = pb at *
  obtain ⟨m, hm⟩ : ∃ m, m = msgX x := ⟨_, rfl⟩
  rw [← hm] at HW
  have HM := Lib.hid hm
  clear hm
  go_wp2
  go_loopg [20] 16 (fun gh i wx => ∃ k : Nat, k ≤ 16 ∧ i = .int .i64 (k : Int) ∧ gh = 16 - k ∧ Hid (Blk wx (pb + 1) (wcl m k).toArray 143 ∧ Keep (fun g => g = pb + 1) w2 wx))
  case atStart => exact ⟨0, by omega, rfl, rfl, HW.out, Keep.refl _ _⟩
  case round =>
    clear HW
    obtain ⟨k, hk, rfl, hg, HR⟩ := hrel
    have HGK := Lib.hid hg
    clear hg
    by_cases hlt : k < 16
    · have BP := HR.out.2.blk HP.out (by omega)
      have a0 : IntKind.i64.wrap (4 * (k : Int)) = 4 * (k : Int) := by rw [IntKind.wrap_i64]; omega
      have a1 : IntKind.i64.wrap (4 * (k : Int) + 1) = 4 * (k : Int) + 1 := by rw [IntKind.wrap_i64]; omega
      have a2 : IntKind.i64.wrap (4 * (k : Int) + 2) = 4 * (k : Int) + 2 := by rw [IntKind.wrap_i64]; omega
      have a3 : IntKind.i64.wrap (4 * (k : Int) + 3) = 4 * (k : Int) + 3 := by rw [IntKind.wrap_i64]; omega
      have t0 : (4 * (k : Int)).toNat = 4 * k := by omega
      have t1 : (4 * (k : Int) + 1).toNat = 4 * k + 1 := by omega
      have t2 : (4 * (k : Int) + 2).toNat = 4 * k + 2 := by omega
      have t3 : (4 * (k : Int) + 3).toNat = 4 * k + 3 := by omega
      have k64 : (k : Int) < 64 := by omega
      have b0 : 0 ≤ 4 * (k : Int) := by omega
      have b1 : 0 ≤ 4 * (k : Int) + 1 := by omega
      have b2 : 0 ≤ 4 * (k : Int) + 2 := by omega
      have b3 : 0 ≤ 4 * (k : Int) + 3 := by omega
      have d0 : 4 * (k : Int) < 64 := by omega
      have d1 : 4 * (k : Int) + 1 < 64 := by omega
      have d2 : 4 * (k : Int) + 2 < 64 := by omega
      have d3 : 4 * (k : Int) + 3 < 64 := by omega
      have c0 : wr.cell? ⟨pb, 4 * k, none⟩ = some (.int .u8 (x (4 * k))) := by rw [BP.cell]; simpa using u8c_get x 64 (4 * k) (by omega)
      have c1 : wr.cell? ⟨pb, 4 * k + 1, none⟩ = some (.int .u8 (x (4 * k + 1))) := by rw [BP.cell]; simpa using u8c_get x 64 (4 * k + 1) (by omega)
      have c2 : wr.cell? ⟨pb, 4 * k + 2, none⟩ = some (.int .u8 (x (4 * k + 2))) := by rw [BP.cell]; simpa using u8c_get x 64 (4 * k + 2) (by omega)
      have c3 : wr.cell? ⟨pb, 4 * k + 3, none⟩ = some (.int .u8 (x (4 * k + 3))) := by rw [BP.cell]; simpa using u8c_get x 64 (4 * k + 3) (by omega)
      have hx0 := HX.out (4 * k) (by omega)
      have hx1 := HX.out (4 * k + 1) (by omega)
      have hx2 := HX.out (4 * k + 2) (by omega)
      have hx3 := HX.out (4 * k + 3) (by omega)
      have hor := or_be4 _ _ _ _ hx0 hx1 hx2 hx3
      have HMK := Lib.hid (show be4 (x (4 * k)) (x (4 * k + 1)) (x (4 * k + 2)) (x (4 * k + 3)) = shw m k from by rw [shw_lo _ _ hlt, HM.out]; rfl)
      generalize x (4 * k) = x0 at *
      generalize x (4 * k + 1) = x1 at *
      generalize x (4 * k + 2) = x2 at *
      generalize x (4 * k + 3) = x3 at *
      have q0 : IntKind.u32.wrap x0 = x0 := wraps_u32 _ (by omega) (by omega)
      have q1 : IntKind.u32.wrap x1 = x1 := wraps_u32 _ (by omega) (by omega)
      have q2 : IntKind.u32.wrap x2 = x2 := wraps_u32 _ (by omega) (by omega)
      have q3 : IntKind.u32.wrap x3 = x3 := wraps_u32 _ (by omega) (by omega)
      have r0 : IntKind.u32.wrap (x0 * 16777216) = x0 * 16777216 := wraps_u32 _ (by omega) (by omega)
      have r1 : IntKind.u32.wrap (x1 * 65536) = x1 * 65536 := wraps_u32 _ (by omega) (by omega)
      have r2 : IntKind.u32.wrap (x2 * 256) = x2 * 256 := wraps_u32 _ (by omega) (by omega)
      have f0 := HR.out.1.drew.free k
      have g0 : wr.drew.cell? ⟨pb + 1, k, none⟩ = some (.int .u32 (iv 0)) := by
        rw [HR.out.1.drew.cell]; unfold wcl; rw [List.getElem?_toArray, u32c_get _ 64 k (by omega), if_neg (by omega)]
      clear BP hx0 hx1 hx2 hx3
      go_upto_region 5 with fail
      refine wp_region_last 31 (fun w' => w' = wr.drew) (by kernel_rfl) rfl (fun hS => ?_)
      refine tkL 0 (v := ?_) rfl (by kernel_rfl) ⟨by rfl, ?_⟩ hS ?_
      rotate_left
      · intro w0 hs; subst hs; go_simp; try (with_reducible rfl)
      try simp only [Act.put, List.setIfInBounds_toArray, List.set_cons_zero, List.set_cons_succ]
      refine tkL 1 (v := ?_) rfl (by kernel_rfl) ⟨by rfl, ?_⟩ hS ?_
      rotate_left
      · intro w0 hs; subst hs; go_simp; try (with_reducible rfl)
      try simp only [Act.put, List.setIfInBounds_toArray, List.set_cons_zero, List.set_cons_succ]
      refine tkL 2 (v := ?_) rfl (by kernel_rfl) ⟨by rfl, ?_⟩ hS ?_
      rotate_left
      · intro w0 hs; subst hs; go_simp; try (with_reducible rfl)
      try simp only [Act.put, List.setIfInBounds_toArray, List.set_cons_zero, List.set_cons_succ]
      refine tkL 3 (v := ?_) rfl (by kernel_rfl) ⟨by rfl, ?_⟩ hS ?_
      rotate_left
      · intro w0 hs; subst hs; go_simp; try (with_reducible rfl)
      try simp only [Act.put, List.setIfInBounds_toArray, List.set_cons_zero, List.set_cons_succ]
      refine tkL 4 (v := ?_) rfl (by kernel_rfl) ⟨by rfl, ?_⟩ hS ?_
      rotate_left
      · intro w0 hs; subst hs; go_simp; try (with_reducible rfl)
      try simp only [Act.put, List.setIfInBounds_toArray, List.set_cons_zero, List.set_cons_succ]
      refine tkL 5 (v := ?_) rfl (by kernel_rfl) ⟨by rfl, ?_⟩ hS ?_
      rotate_left
      · intro w0 hs; subst hs; go_simp; try (with_reducible rfl)
      try simp only [Act.put, List.setIfInBounds_toArray, List.set_cons_zero, List.set_cons_succ]
      refine tkL 6 (v := ?_) rfl (by kernel_rfl) ⟨by rfl, ?_⟩ hS ?_
      rotate_left
      · intro w0 hs; subst hs; go_simp; try (with_reducible rfl)
      try simp only [Act.put, List.setIfInBounds_toArray, List.set_cons_zero, List.set_cons_succ]
      refine tkL 7 (v := ?_) rfl (by kernel_rfl) ⟨by rfl, ?_⟩ hS ?_
      rotate_left
      · intro w0 hs; subst hs; go_simp; try (with_reducible rfl)
      try simp only [Act.put, List.setIfInBounds_toArray, List.set_cons_zero, List.set_cons_succ]
      refine tkL 8 (v := ?_) rfl (by kernel_rfl) ⟨by rfl, ?_⟩ hS ?_
      rotate_left
      · intro w0 hs; subst hs; go_simp; try (with_reducible rfl)
      try simp only [Act.put, List.setIfInBounds_toArray, List.set_cons_zero, List.set_cons_succ]
      refine tkL 9 (v := ?_) rfl (by kernel_rfl) ⟨by rfl, ?_⟩ hS ?_
      rotate_left
      · intro w0 hs; subst hs; go_simp; try (with_reducible rfl)
      try simp only [Act.put, List.setIfInBounds_toArray, List.set_cons_zero, List.set_cons_succ]
      refine tkL 10 (v := ?_) rfl (by kernel_rfl) ⟨by rfl, ?_⟩ hS ?_
      rotate_left
      · intro w0 hs; subst hs; go_simp; try (with_reducible rfl)
      try simp only [Act.put, List.setIfInBounds_toArray, List.set_cons_zero, List.set_cons_succ]
      refine tkL 11 (v := ?_) rfl (by kernel_rfl) ⟨by rfl, ?_⟩ hS ?_
      rotate_left
      · intro w0 hs; subst hs; go_simp; try (with_reducible rfl)
      try simp only [Act.put, List.setIfInBounds_toArray, List.set_cons_zero, List.set_cons_succ]
      refine tkL 12 (v := ?_) rfl (by kernel_rfl) ⟨by rfl, ?_⟩ hS ?_
      rotate_left
      · intro w0 hs; subst hs; go_simp; try (with_reducible rfl)
      try simp only [Act.put, List.setIfInBounds_toArray, List.set_cons_zero, List.set_cons_succ]
      refine tkL 13 (v := ?_) rfl (by kernel_rfl) ⟨by rfl, ?_⟩ hS ?_
      rotate_left
      · intro w0 hs; subst hs; go_simp; try (with_reducible rfl)
      try simp only [Act.put, List.setIfInBounds_toArray, List.set_cons_zero, List.set_cons_succ]
      refine tkL 14 (v := ?_) rfl (by kernel_rfl) ⟨by rfl, ?_⟩ hS ?_
      rotate_left
      · intro w0 hs; subst hs; go_simp; try (with_reducible rfl)
      try simp only [Act.put, List.setIfInBounds_toArray, List.set_cons_zero, List.set_cons_succ]
      refine tkL 15 (v := ?_) rfl (by kernel_rfl) ⟨by rfl, ?_⟩ hS ?_
      rotate_left
      · intro w0 hs; subst hs; go_simp; try (with_reducible rfl)
      try simp only [Act.put, List.setIfInBounds_toArray, List.set_cons_zero, List.set_cons_succ]
      refine tkL 16 (v := ?_) rfl (by kernel_rfl) ⟨by rfl, ?_⟩ hS ?_
      rotate_left
      · intro w0 hs; subst hs; go_simp; try (with_reducible rfl)
      try simp only [Act.put, List.setIfInBounds_toArray, List.set_cons_zero, List.set_cons_succ]
      refine tkL 17 (v := ?_) rfl (by kernel_rfl) ⟨by rfl, ?_⟩ hS ?_
      rotate_left
      · intro w0 hs; subst hs; go_simp; try (with_reducible rfl)
      try simp only [Act.put, List.setIfInBounds_toArray, List.set_cons_zero, List.set_cons_succ]
      refine tkL 18 (v := ?_) rfl (by kernel_rfl) ⟨by rfl, ?_⟩ hS ?_
      rotate_left
      · intro w0 hs; subst hs; go_simp; try (with_reducible rfl)
      try simp only [Act.put, List.setIfInBounds_toArray, List.set_cons_zero, List.set_cons_succ]
      refine tkL 19 (v := ?_) rfl (by kernel_rfl) ⟨by rfl, ?_⟩ hS ?_
      rotate_left
      · intro w0 hs; subst hs; go_simp; try (with_reducible rfl)
      try simp only [Act.put, List.setIfInBounds_toArray, List.set_cons_zero, List.set_cons_succ]
      refine tkL 20 (v := ?_) rfl (by kernel_rfl) ⟨by rfl, ?_⟩ hS ?_
      rotate_left
      · intro w0 hs; subst hs; go_simp; try (with_reducible rfl)
      try simp only [Act.put, List.setIfInBounds_toArray, List.set_cons_zero, List.set_cons_succ]
      refine tkL 21 (v := ?_) rfl (by kernel_rfl) ⟨by rfl, ?_⟩ hS ?_
      rotate_left
      · intro w0 hs; subst hs; go_simp; try (with_reducible rfl)
      try simp only [Act.put, List.setIfInBounds_toArray, List.set_cons_zero, List.set_cons_succ]
      refine tkL 22 (v := ?_) rfl (by kernel_rfl) ⟨by rfl, ?_⟩ hS ?_
      rotate_left
      · intro w0 hs; subst hs; go_simp; try (with_reducible rfl)
      try simp only [Act.put, List.setIfInBounds_toArray, List.set_cons_zero, List.set_cons_succ]
      refine tkL 23 (v := ?_) rfl (by kernel_rfl) ⟨by rfl, ?_⟩ hS ?_
      rotate_left
      · intro w0 hs; subst hs; go_simp; try (with_reducible rfl)
      try simp only [Act.put, List.setIfInBounds_toArray, List.set_cons_zero, List.set_cons_succ]
      refine tkL 24 (v := ?_) rfl (by kernel_rfl) ⟨by rfl, ?_⟩ hS ?_
      rotate_left
      · intro w0 hs; subst hs; go_simp; try (with_reducible rfl)
      try simp only [Act.put, List.setIfInBounds_toArray, List.set_cons_zero, List.set_cons_succ]
      refine tkL 25 (v := ?_) rfl (by kernel_rfl) ⟨by rfl, ?_⟩ hS ?_
      rotate_left
      · intro w0 hs; subst hs; go_simp; try (with_reducible rfl)
      try simp only [Act.put, List.setIfInBounds_toArray, List.set_cons_zero, List.set_cons_succ]
      refine tkL 26 (v := ?_) rfl (by kernel_rfl) ⟨by rfl, ?_⟩ hS ?_
      rotate_left
      · intro w0 hs; subst hs; go_simp; try (with_reducible rfl)
      try simp only [Act.put, List.setIfInBounds_toArray, List.set_cons_zero, List.set_cons_succ]
      refine tkL 27 (v := ?_) rfl (by kernel_rfl) ⟨by rfl, ?_⟩ hS ?_
      rotate_left
      · intro w0 hs; subst hs; go_simp; try (with_reducible rfl)
      try simp only [Act.put, List.setIfInBounds_toArray, List.set_cons_zero, List.set_cons_succ]
      refine tkL 28 (v := ?_) rfl (by kernel_rfl) ⟨by rfl, ?_⟩ hS ?_
      rotate_left
      · intro w0 hs; subst hs; go_simp; try (with_reducible rfl)
      try simp only [Act.put, List.setIfInBounds_toArray, List.set_cons_zero, List.set_cons_succ]
      refine tkL 29 (v := ?_) rfl (by kernel_rfl) ⟨by rfl, ?_⟩ hS ?_
      rotate_left
      · intro w0 hs; subst hs; go_simp; try (with_reducible rfl)
      try simp only [Act.put, List.setIfInBounds_toArray, List.set_cons_zero, List.set_cons_succ]
      refine tkL 30 (v := ?_) rfl (by kernel_rfl) ⟨by rfl, ?_⟩ hS ?_
      rotate_left
      · intro w0 hs; subst hs; go_simp; try (with_reducible rfl)
      try simp only [Act.put, List.setIfInBounds_toArray, List.set_cons_zero, List.set_cons_succ]
      refine wpAnyL_one (i := 31) (oi := ⟨_, _, _, _, _, _⟩) rfl (by kernel_rfl) (fun K hK => ?_)
      rw [if_pos (by rfl)]
      clear hS
      go_simp
      refine hK.out _ _ (.inl rfl) ?_
      clear hK
      try simp only [Act.put, List.setIfInBounds_toArray, List.set_cons_zero, List.set_cons_succ]
      refine wpAnyL_done (by kernel_rfl) ?_ _
      go_wp2
      go_roundg (16 - (k + 1))
      case measure => rw [HGK.out]; omega
      case rel =>
        refine ⟨k + 1, hlt, rfl, rfl, ?_, HR.out.2.trans (((Keep.refl (fun g => g = pb + 1) wr).set (p := ⟨pb + 1, k, none⟩) (.inl rfl) _).drew)⟩
        have := (HR.out.1.set k (.int .u32 (iv (shw m k)))).drew
        rw [wcl_set m k (by omega)] at this
        rw [HMK.out]; exact this
    · obtain rfl : k = 16 := by omega
      have HW2 := HR
      clear HR HGK
      go_wp2
      go_loopg [6] 48 (fun gh i wx => ∃ j : Nat, 16 ≤ j ∧ j ≤ 64 ∧ i = .int .i64 (j : Int) ∧ gh = 64 - j ∧ Hid (Blk wx (pb + 1) (wcl m j).toArray 143 ∧ Keep (fun g => g = pb + 1) w2 wx))
      case atStart => exact ⟨16, by omega, by omega, rfl, rfl, HW2.out.1, HW2.out.2⟩
      case round =>
        clear HW2
        obtain ⟨j, hj16, hj, rfl, hg, HR⟩ := hrel
        have HGK := Lib.hid hg
        clear hg
        by_cases hlt : j < 64
        · skip
          have hj64 : (j : Int) < 64 := by omega
          have a2 : IntKind.i64.wrap ((j : Int) - 2) = (j : Int) - 2 := by rw [IntKind.wrap_i64]; omega
          have t2 : ((j : Int) - 2).toNat = j - 2 := by omega
          have b2 : 0 ≤ (j : Int) - 2 := by omega
          have d2 : (j : Int) - 2 < 64 := by omega
          have e2 : (2 : Int) ≤ (j : Int) := by omega
          have c2 : wr.drew.cell? ⟨pb + 1, j - 2, none⟩ = some (.int .u32 (iv (shw m (j - 2)))) := by
            rw [HR.out.1.drew.cell, List.getElem?_toArray]; exact wcl_get m j (j - 2) (by omega) (by omega)
          have a7 : IntKind.i64.wrap ((j : Int) - 7) = (j : Int) - 7 := by rw [IntKind.wrap_i64]; omega
          have t7 : ((j : Int) - 7).toNat = j - 7 := by omega
          have b7 : 0 ≤ (j : Int) - 7 := by omega
          have d7 : (j : Int) - 7 < 64 := by omega
          have e7 : (7 : Int) ≤ (j : Int) := by omega
          have c7 : wr.drew.cell? ⟨pb + 1, j - 7, none⟩ = some (.int .u32 (iv (shw m (j - 7)))) := by
            rw [HR.out.1.drew.cell, List.getElem?_toArray]; exact wcl_get m j (j - 7) (by omega) (by omega)
          have a15 : IntKind.i64.wrap ((j : Int) - 15) = (j : Int) - 15 := by rw [IntKind.wrap_i64]; omega
          have t15 : ((j : Int) - 15).toNat = j - 15 := by omega
          have b15 : 0 ≤ (j : Int) - 15 := by omega
          have d15 : (j : Int) - 15 < 64 := by omega
          have e15 : (15 : Int) ≤ (j : Int) := by omega
          have c15 : wr.drew.cell? ⟨pb + 1, j - 15, none⟩ = some (.int .u32 (iv (shw m (j - 15)))) := by
            rw [HR.out.1.drew.cell, List.getElem?_toArray]; exact wcl_get m j (j - 15) (by omega) (by omega)
          have a16 : IntKind.i64.wrap ((j : Int) - 16) = (j : Int) - 16 := by rw [IntKind.wrap_i64]; omega
          have t16 : ((j : Int) - 16).toNat = j - 16 := by omega
          have b16 : 0 ≤ (j : Int) - 16 := by omega
          have d16 : (j : Int) - 16 < 64 := by omega
          have e16 : (16 : Int) ≤ (j : Int) := by omega
          have c16 : wr.drew.cell? ⟨pb + 1, j - 16, none⟩ = some (.int .u32 (iv (shw m (j - 16)))) := by
            rw [HR.out.1.drew.cell, List.getElem?_toArray]; exact wcl_get m j (j - 16) (by omega) (by omega)
          have HWJ := Lib.hid (shw_hi m j (by omega))
          have f0 := HR.out.1.drew.free j
          have g0 : wr.drew.cell? ⟨pb + 1, j, none⟩ = some (.int .u32 (iv 0)) := by
            rw [HR.out.1.drew.cell]; unfold wcl; rw [List.getElem?_toArray, u32c_get _ 64 j (by omega), if_neg (by omega)]
          generalize shw m (j - 2) = y2 at *
          generalize shw m (j - 7) = y7 at *
          generalize shw m (j - 15) = y15 at *
          generalize shw m (j - 16) = y16 at *
          have s10 : Op.shift .shr .u32 (iv y2) .u64 10 = pure (.int .u32 (iv (y2 >>> 10))) := shr32 y2 10 (by decide)
          have s3 : Op.shift .shr .u32 (iv y15) .u64 3 = pure (.int .u32 (iv (y15 >>> 3))) := shr32 y15 3 (by decide)
          have ADD := iv_add
          go_upto_region 10 with fail
          refine wp_region_last 33 (fun w' => w' = wr.drew) (by kernel_rfl) rfl (fun hS => ?_)
          refine tkL 0 (v := ?_) rfl (by kernel_rfl) ⟨by rfl, ?_⟩ hS ?_
          rotate_left
          · intro w0 hs; subst hs; go_simp; try (with_reducible rfl)
          try simp only [Act.put, List.setIfInBounds_toArray, List.set_cons_zero, List.set_cons_succ]
          refine tkL 1 (v := ?_) rfl (by kernel_rfl) ⟨by rfl, ?_⟩ hS ?_
          rotate_left
          · intro w0 hs; subst hs; go_simp; try (with_reducible rfl)
          try simp only [Act.put, List.setIfInBounds_toArray, List.set_cons_zero, List.set_cons_succ]
          refine tkL 2 (v := ?_) rfl (by kernel_rfl) ⟨by rfl, ?_⟩ hS ?_
          rotate_left
          · intro w0 hs; subst hs; go_simp; try (with_reducible rfl)
          try simp only [Act.put, List.setIfInBounds_toArray, List.set_cons_zero, List.set_cons_succ]
          refine tkL 3 (v := ?_) rfl (by kernel_rfl) ⟨by rfl, ?_⟩ hS ?_
          rotate_left
          · intro w0 hs; subst hs; go_simp; try (with_reducible rfl)
          try simp only [Act.put, List.setIfInBounds_toArray, List.set_cons_zero, List.set_cons_succ]
          refine tkL 4 (v := ?_) rfl (by kernel_rfl) ⟨by rfl, ?_⟩ hS ?_
          rotate_left
          · intro w0 hs; subst hs; go_simp; try (with_reducible rfl)
          try simp only [Act.put, List.setIfInBounds_toArray, List.set_cons_zero, List.set_cons_succ]
          refine tkL 5 (v := ?_) rfl (by kernel_rfl) ⟨by rfl, ?_⟩ hS ?_
          rotate_left
          · intro w0 hs; subst hs; go_simp; try (with_reducible rfl)
          try simp only [Act.put, List.setIfInBounds_toArray, List.set_cons_zero, List.set_cons_succ]
          refine tkL 6 (v := ?_) rfl (by kernel_rfl) ⟨by rfl, ?_⟩ hS ?_
          rotate_left
          · intro w0 hs; subst hs; go_simp; try (with_reducible rfl)
          try simp only [Act.put, List.setIfInBounds_toArray, List.set_cons_zero, List.set_cons_succ]
          refine tkL 7 (v := ?_) rfl (by kernel_rfl) ⟨by rfl, ?_⟩ hS ?_
          rotate_left
          · intro w0 hs; subst hs; go_simp; try (with_reducible rfl)
          try simp only [Act.put, List.setIfInBounds_toArray, List.set_cons_zero, List.set_cons_succ]
          refine tkL 8 (v := ?_) rfl (by kernel_rfl) ⟨by rfl, ?_⟩ hS ?_
          rotate_left
          · intro w0 hs; subst hs; go_simp; try (with_reducible rfl)
          try simp only [Act.put, List.setIfInBounds_toArray, List.set_cons_zero, List.set_cons_succ]
          refine tkL 9 (v := ?_) rfl (by kernel_rfl) ⟨by rfl, ?_⟩ hS ?_
          rotate_left
          · intro w0 hs; subst hs; go_simp; try (with_reducible rfl)
          try simp only [Act.put, List.setIfInBounds_toArray, List.set_cons_zero, List.set_cons_succ]
          refine tkL 11 (v := ?_) rfl (by kernel_rfl) ⟨by rfl, ?_⟩ hS ?_
          rotate_left
          · intro w0 hs; subst hs; go_simp; try (with_reducible rfl)
          try simp only [Act.put, List.setIfInBounds_toArray, List.set_cons_zero, List.set_cons_succ]
          refine tkL 12 (v := ?_) rfl (by kernel_rfl) ⟨by rfl, ?_⟩ hS ?_
          rotate_left
          · intro w0 hs; subst hs; go_simp; try (with_reducible rfl)
          try simp only [Act.put, List.setIfInBounds_toArray, List.set_cons_zero, List.set_cons_succ]
          refine tkL 13 (v := ?_) rfl (by kernel_rfl) ⟨by rfl, ?_⟩ hS ?_
          rotate_left
          · intro w0 hs; subst hs; go_simp; try (with_reducible rfl)
          try simp only [Act.put, List.setIfInBounds_toArray, List.set_cons_zero, List.set_cons_succ]
          refine tkL 14 (v := ?_) rfl (by kernel_rfl) ⟨by rfl, ?_⟩ hS ?_
          rotate_left
          · intro w0 hs; subst hs; go_simp; try (with_reducible rfl)
          try simp only [Act.put, List.setIfInBounds_toArray, List.set_cons_zero, List.set_cons_succ]
          refine tkL 16 (v := ?_) rfl (by kernel_rfl) ⟨by rfl, ?_⟩ hS ?_
          rotate_left
          · intro w0 hs; subst hs; go_simp; try (with_reducible rfl)
          try simp only [Act.put, List.setIfInBounds_toArray, List.set_cons_zero, List.set_cons_succ]
          refine tkL 17 (v := ?_) rfl (by kernel_rfl) ⟨by rfl, ?_⟩ hS ?_
          rotate_left
          · intro w0 hs; subst hs; go_simp; try (with_reducible rfl)
          try simp only [Act.put, List.setIfInBounds_toArray, List.set_cons_zero, List.set_cons_succ]
          refine tkL 18 (v := ?_) rfl (by kernel_rfl) ⟨by rfl, ?_⟩ hS ?_
          rotate_left
          · intro w0 hs; subst hs; go_simp; try (with_reducible rfl)
          try simp only [Act.put, List.setIfInBounds_toArray, List.set_cons_zero, List.set_cons_succ]
          refine tkL 19 (v := ?_) rfl (by kernel_rfl) ⟨by rfl, ?_⟩ hS ?_
          rotate_left
          · intro w0 hs; subst hs; go_simp; try (with_reducible rfl)
          try simp only [Act.put, List.setIfInBounds_toArray, List.set_cons_zero, List.set_cons_succ]
          refine tkL 20 (v := ?_) rfl (by kernel_rfl) ⟨by rfl, ?_⟩ hS ?_
          rotate_left
          · intro w0 hs; subst hs; go_simp; try (with_reducible rfl)
          try simp only [Act.put, List.setIfInBounds_toArray, List.set_cons_zero, List.set_cons_succ]
          refine tkL 21 (v := ?_) rfl (by kernel_rfl) ⟨by rfl, ?_⟩ hS ?_
          rotate_left
          · intro w0 hs; subst hs; go_simp; try (with_reducible rfl)
          try simp only [Act.put, List.setIfInBounds_toArray, List.set_cons_zero, List.set_cons_succ]
          refine tkL 22 (v := ?_) rfl (by kernel_rfl) ⟨by rfl, ?_⟩ hS ?_
          rotate_left
          · intro w0 hs; subst hs; go_simp; try (with_reducible rfl)
          try simp only [Act.put, List.setIfInBounds_toArray, List.set_cons_zero, List.set_cons_succ]
          refine tkL 23 (v := ?_) rfl (by kernel_rfl) ⟨by rfl, ?_⟩ hS ?_
          rotate_left
          · intro w0 hs; subst hs; go_simp; try (with_reducible rfl)
          try simp only [Act.put, List.setIfInBounds_toArray, List.set_cons_zero, List.set_cons_succ]
          refine tkL 24 (v := ?_) rfl (by kernel_rfl) ⟨by rfl, ?_⟩ hS ?_
          rotate_left
          · intro w0 hs; subst hs; go_simp; try (with_reducible rfl)
          try simp only [Act.put, List.setIfInBounds_toArray, List.set_cons_zero, List.set_cons_succ]
          refine tkL 27 (v := ?_) rfl (by kernel_rfl) ⟨by rfl, ?_⟩ hS ?_
          rotate_left
          · intro w0 hs; subst hs; go_simp; try (with_reducible rfl)
          try simp only [Act.put, List.setIfInBounds_toArray, List.set_cons_zero, List.set_cons_succ]
          refine tkL 28 (v := ?_) rfl (by kernel_rfl) ⟨by rfl, ?_⟩ hS ?_
          rotate_left
          · intro w0 hs; subst hs; go_simp; try (with_reducible rfl)
          try simp only [Act.put, List.setIfInBounds_toArray, List.set_cons_zero, List.set_cons_succ]
          refine tkL 29 (v := ?_) rfl (by kernel_rfl) ⟨by rfl, ?_⟩ hS ?_
          rotate_left
          · intro w0 hs; subst hs; go_simp; try (with_reducible rfl)
          try simp only [Act.put, List.setIfInBounds_toArray, List.set_cons_zero, List.set_cons_succ]
          refine tkL 30 (v := ?_) rfl (by kernel_rfl) ⟨by rfl, ?_⟩ hS ?_
          rotate_left
          · intro w0 hs; subst hs; go_simp; try (with_reducible rfl)
          try simp only [Act.put, List.setIfInBounds_toArray, List.set_cons_zero, List.set_cons_succ]
          refine wpAnyL_one (i := 10) (oi := ⟨_, _, _, _, _, _⟩) rfl (by kernel_rfl) (fun K hK => ?_)
          rw [if_pos (by rfl)]
          go_step
          refine (xor3 y2 (y2 >>> 10) 17 19 (by decide) (by decide) (by decide) (by decide) _).mono ?_
          rintro e y1 ⟨rfl, rfl⟩
          simp only []
          have hS' := hS
          refine hK.out _ _ (.inr hS') ?_
          clear hS hK
          have hS := hS'; clear hS'
          try simp only [Act.put, List.setIfInBounds_toArray, List.set_cons_zero, List.set_cons_succ]
          refine tkL 15 (v := ?_) rfl (by kernel_rfl) ⟨by rfl, ?_⟩ hS ?_
          rotate_left
          · intro w0 hs; subst hs; go_simp; try (with_reducible rfl)
          try simp only [Act.put, List.setIfInBounds_toArray, List.set_cons_zero, List.set_cons_succ]
          refine wpAnyL_one (i := 25) (oi := ⟨_, _, _, _, _, _⟩) rfl (by kernel_rfl) (fun K hK => ?_)
          rw [if_pos (by rfl)]
          go_step
          refine (xor3 y15 (y15 >>> 3) 7 18 (by decide) (by decide) (by decide) (by decide) _).mono ?_
          rintro e y2 ⟨rfl, rfl⟩
          simp only []
          have hS' := hS
          refine hK.out _ _ (.inr hS') ?_
          clear hS hK
          have hS := hS'; clear hS'
          try simp only [Act.put, List.setIfInBounds_toArray, List.set_cons_zero, List.set_cons_succ]
          refine tkL 26 (v := ?_) rfl (by kernel_rfl) ⟨by rfl, ?_⟩ hS ?_
          rotate_left
          · intro w0 hs; subst hs; go_simp; try (with_reducible rfl)
          try simp only [Act.put, List.setIfInBounds_toArray, List.set_cons_zero, List.set_cons_succ]
          refine tkL 31 (v := ?_) rfl (by kernel_rfl) ⟨by rfl, ?_⟩ hS ?_
          rotate_left
          · intro w0 hs; subst hs; go_simp; try (with_reducible rfl)
          try simp only [Act.put, List.setIfInBounds_toArray, List.set_cons_zero, List.set_cons_succ]
          refine tkL 32 (v := ?_) rfl (by kernel_rfl) ⟨by rfl, ?_⟩ hS ?_
          rotate_left
          · intro w0 hs; subst hs; go_simp; try (with_reducible rfl)
          try simp only [Act.put, List.setIfInBounds_toArray, List.set_cons_zero, List.set_cons_succ]
          refine wpAnyL_one (i := 33) (oi := ⟨_, _, _, _, _, _⟩) rfl (by kernel_rfl) (fun K hK => ?_)
          rw [if_pos (by rfl)]
          clear hS
          go_simp
          refine hK.out _ _ (.inl rfl) ?_
          clear hK
          try simp only [Act.put, List.setIfInBounds_toArray, List.set_cons_zero, List.set_cons_succ]
          refine wpAnyL_done (by kernel_rfl) ?_ _
          go_wp2
          go_roundg (64 - (j + 1))
          case measure => rw [HGK.out]; omega
          case rel =>
            refine ⟨j + 1, by omega, hlt, rfl, rfl, ?_, HR.out.2.trans (((Keep.refl (fun g => g = pb + 1) wr).set (p := ⟨pb + 1, j, none⟩) (.inl rfl) _).drew)⟩
            have := (HR.out.1.set j (.int .u32 (iv (shw m j)))).drew
            rw [wcl_set m j (by omega), HWJ.out] at this
            exact this
        · obtain rfl : j = 64 := by omega
          generalize wr = w3 at *
          have BH3 := HR.out.2.blk HB0.out (by omega)
          have BW3 := HR.out.1
          have q0 : w3.drew.cell? ⟨hb, 1, none⟩ = some (.int .u32 (iv (σ 0))) := by rw [BH3.drew.cell, List.getElem?_toArray]; exact hcl_w σ P n 0 (by decide)
          have q1 : w3.drew.cell? ⟨hb, 2, none⟩ = some (.int .u32 (iv (σ 1))) := by rw [BH3.drew.cell, List.getElem?_toArray]; exact hcl_w σ P n 1 (by decide)
          have q2 : w3.drew.cell? ⟨hb, 3, none⟩ = some (.int .u32 (iv (σ 2))) := by rw [BH3.drew.cell, List.getElem?_toArray]; exact hcl_w σ P n 2 (by decide)
          have q3 : w3.drew.cell? ⟨hb, 4, none⟩ = some (.int .u32 (iv (σ 3))) := by rw [BH3.drew.cell, List.getElem?_toArray]; exact hcl_w σ P n 3 (by decide)
          have q4 : w3.drew.cell? ⟨hb, 5, none⟩ = some (.int .u32 (iv (σ 4))) := by rw [BH3.drew.cell, List.getElem?_toArray]; exact hcl_w σ P n 4 (by decide)
          have q5 : w3.drew.cell? ⟨hb, 6, none⟩ = some (.int .u32 (iv (σ 5))) := by rw [BH3.drew.cell, List.getElem?_toArray]; exact hcl_w σ P n 5 (by decide)
          have q6 : w3.drew.cell? ⟨hb, 7, none⟩ = some (.int .u32 (iv (σ 6))) := by rw [BH3.drew.cell, List.getElem?_toArray]; exact hcl_w σ P n 6 (by decide)
          have q7 : w3.drew.cell? ⟨hb, 8, none⟩ = some (.int .u32 (iv (σ 7))) := by rw [BH3.drew.cell, List.getElem?_toArray]; exact hcl_w σ P n 7 (by decide)
          have HB3 := Lib.hid BH3
          have HW3 := Lib.hid BW3
          have HG3 := Lib.hid (show ∀ i, i < 64 → w3.cell? ⟨1, i, none⟩ = some (.int .u32 (iv (kw i))) from fun i hi => (HR.out.2.cell (p := ⟨1, i, none⟩) (cell_lt (HG0.out.2 i hi)) (by show ¬ 1 = pb + 1; omega)).trans (HG0.out.2 i hi))
          have K3 := Lib.hid ((Keep.of_below (show Below w.heap.size w w2 by rw [hgw]; exact HK.out)).trans' HR.out.2 (fun g h => .inr (by rw [hgw, h]; omega)) : Keep (fun _ => False) w w3)
          clear BH3 BW3 HGK
          go_upto_region 11 with fail
          refine wp_region_held_drew (S := fun w' => w' = w3.drew) (by kernel_rfl) rfl (fun hS => ?_)
          refine tkH 0 (v := ?_) rfl (by kernel_rfl) ⟨by rfl, ?_⟩ hS ?_
          rotate_left
          · intro w0 hs; subst hs; go_simp; try (with_reducible rfl)
          try simp only [Act.put, List.setIfInBounds_toArray, List.set_cons_zero, List.set_cons_succ]
          refine tkH 1 (v := ?_) rfl (by kernel_rfl) ⟨by rfl, ?_⟩ hS ?_
          rotate_left
          · intro w0 hs; subst hs; go_simp; try (with_reducible rfl)
          try simp only [Act.put, List.setIfInBounds_toArray, List.set_cons_zero, List.set_cons_succ]
          refine tkH 2 (v := ?_) rfl (by kernel_rfl) ⟨by rfl, ?_⟩ hS ?_
          rotate_left
          · intro w0 hs; subst hs; go_simp; try (with_reducible rfl)
          try simp only [Act.put, List.setIfInBounds_toArray, List.set_cons_zero, List.set_cons_succ]
          refine tkH 3 (v := ?_) rfl (by kernel_rfl) ⟨by rfl, ?_⟩ hS ?_
          rotate_left
          · intro w0 hs; subst hs; go_simp; try (with_reducible rfl)
          try simp only [Act.put, List.setIfInBounds_toArray, List.set_cons_zero, List.set_cons_succ]
          refine tkH 4 (v := ?_) rfl (by kernel_rfl) ⟨by rfl, ?_⟩ hS ?_
          rotate_left
          · intro w0 hs; subst hs; go_simp; try (with_reducible rfl)
          try simp only [Act.put, List.setIfInBounds_toArray, List.set_cons_zero, List.set_cons_succ]
          refine tkH 5 (v := ?_) rfl (by kernel_rfl) ⟨by rfl, ?_⟩ hS ?_
          rotate_left
          · intro w0 hs; subst hs; go_simp; try (with_reducible rfl)
          try simp only [Act.put, List.setIfInBounds_toArray, List.set_cons_zero, List.set_cons_succ]
          refine tkH 6 (v := ?_) rfl (by kernel_rfl) ⟨by rfl, ?_⟩ hS ?_
          rotate_left
          · intro w0 hs; subst hs; go_simp; try (with_reducible rfl)
          try simp only [Act.put, List.setIfInBounds_toArray, List.set_cons_zero, List.set_cons_succ]
          refine tkH 7 (v := ?_) rfl (by kernel_rfl) ⟨by rfl, ?_⟩ hS ?_
          rotate_left
          · intro w0 hs; subst hs; go_simp; try (with_reducible rfl)
          try simp only [Act.put, List.setIfInBounds_toArray, List.set_cons_zero, List.set_cons_succ]
          refine tkH 8 (v := ?_) rfl (by kernel_rfl) ⟨by rfl, ?_⟩ hS ?_
          rotate_left
          · intro w0 hs; subst hs; go_simp; try (with_reducible rfl)
          try simp only [Act.put, List.setIfInBounds_toArray, List.set_cons_zero, List.set_cons_succ]
          refine tkH 9 (v := ?_) rfl (by kernel_rfl) ⟨by rfl, ?_⟩ hS ?_
          rotate_left
          · intro w0 hs; subst hs; go_simp; try (with_reducible rfl)
          try simp only [Act.put, List.setIfInBounds_toArray, List.set_cons_zero, List.set_cons_succ]
          refine tkH 10 (v := ?_) rfl (by kernel_rfl) ⟨by rfl, ?_⟩ hS ?_
          rotate_left
          · intro w0 hs; subst hs; go_simp; try (with_reducible rfl)
          try simp only [Act.put, List.setIfInBounds_toArray, List.set_cons_zero, List.set_cons_succ]
          refine tkH 11 (v := ?_) rfl (by kernel_rfl) ⟨by rfl, ?_⟩ hS ?_
          rotate_left
          · intro w0 hs; subst hs; go_simp; try (with_reducible rfl)
          try simp only [Act.put, List.setIfInBounds_toArray, List.set_cons_zero, List.set_cons_succ]
          refine tkH 12 (v := ?_) rfl (by kernel_rfl) ⟨by rfl, ?_⟩ hS ?_
          rotate_left
          · intro w0 hs; subst hs; go_simp; try (with_reducible rfl)
          try simp only [Act.put, List.setIfInBounds_toArray, List.set_cons_zero, List.set_cons_succ]
          refine tkH 13 (v := ?_) rfl (by kernel_rfl) ⟨by rfl, ?_⟩ hS ?_
          rotate_left
          · intro w0 hs; subst hs; go_simp; try (with_reducible rfl)
          try simp only [Act.put, List.setIfInBounds_toArray, List.set_cons_zero, List.set_cons_succ]
          refine tkH 14 (v := ?_) rfl (by kernel_rfl) ⟨by rfl, ?_⟩ hS ?_
          rotate_left
          · intro w0 hs; subst hs; go_simp; try (with_reducible rfl)
          try simp only [Act.put, List.setIfInBounds_toArray, List.set_cons_zero, List.set_cons_succ]
          refine tkH 15 (v := ?_) rfl (by kernel_rfl) ⟨by rfl, ?_⟩ hS ?_
          rotate_left
          · intro w0 hs; subst hs; go_simp; try (with_reducible rfl)
          try simp only [Act.put, List.setIfInBounds_toArray, List.set_cons_zero, List.set_cons_succ]
          refine tkH 16 (v := ?_) rfl (by kernel_rfl) ⟨by rfl, ?_⟩ hS ?_
          rotate_left
          · intro w0 hs; subst hs; go_simp; try (with_reducible rfl)
          try simp only [Act.put, List.setIfInBounds_toArray, List.set_cons_zero, List.set_cons_succ]
          refine tkH 17 (v := ?_) rfl (by kernel_rfl) ⟨by rfl, ?_⟩ hS ?_
          rotate_left
          · intro w0 hs; subst hs; go_simp; try (with_reducible rfl)
          try simp only [Act.put, List.setIfInBounds_toArray, List.set_cons_zero, List.set_cons_succ]
          refine tkH 18 (v := ?_) rfl (by kernel_rfl) ⟨by rfl, ?_⟩ hS ?_
          rotate_left
          · intro w0 hs; subst hs; go_simp; try (with_reducible rfl)
          try simp only [Act.put, List.setIfInBounds_toArray, List.set_cons_zero, List.set_cons_succ]
          refine tkH 19 (v := ?_) rfl (by kernel_rfl) ⟨by rfl, ?_⟩ hS ?_
          rotate_left
          · intro w0 hs; subst hs; go_simp; try (with_reducible rfl)
          try simp only [Act.put, List.setIfInBounds_toArray, List.set_cons_zero, List.set_cons_succ]
          refine tkH 20 (v := ?_) rfl (by kernel_rfl) ⟨by rfl, ?_⟩ hS ?_
          rotate_left
          · intro w0 hs; subst hs; go_simp; try (with_reducible rfl)
          try simp only [Act.put, List.setIfInBounds_toArray, List.set_cons_zero, List.set_cons_succ]
          refine tkH 21 (v := ?_) rfl (by kernel_rfl) ⟨by rfl, ?_⟩ hS ?_
          rotate_left
          · intro w0 hs; subst hs; go_simp; try (with_reducible rfl)
          try simp only [Act.put, List.setIfInBounds_toArray, List.set_cons_zero, List.set_cons_succ]
          refine tkH 22 (v := ?_) rfl (by kernel_rfl) ⟨by rfl, ?_⟩ hS ?_
          rotate_left
          · intro w0 hs; subst hs; go_simp; try (with_reducible rfl)
          try simp only [Act.put, List.setIfInBounds_toArray, List.set_cons_zero, List.set_cons_succ]
          refine tkH 23 (v := ?_) rfl (by kernel_rfl) ⟨by rfl, ?_⟩ hS ?_
          rotate_left
          · intro w0 hs; subst hs; go_simp; try (with_reducible rfl)
          try simp only [Act.put, List.setIfInBounds_toArray, List.set_cons_zero, List.set_cons_succ]
          refine tkH 24 (v := ?_) rfl (by kernel_rfl) ⟨by rfl, ?_⟩ hS ?_
          rotate_left
          · intro w0 hs; subst hs; go_simp; try (with_reducible rfl)
          try simp only [Act.put, List.setIfInBounds_toArray, List.set_cons_zero, List.set_cons_succ]
          refine tkH 25 (v := ?_) rfl (by kernel_rfl) ⟨by rfl, ?_⟩ hS ?_
          rotate_left
          · intro w0 hs; subst hs; go_simp; try (with_reducible rfl)
          try simp only [Act.put, List.setIfInBounds_toArray, List.set_cons_zero, List.set_cons_succ]
          refine tkH 26 (v := ?_) rfl (by kernel_rfl) ⟨by rfl, ?_⟩ hS ?_
          rotate_left
          · intro w0 hs; subst hs; go_simp; try (with_reducible rfl)
          try simp only [Act.put, List.setIfInBounds_toArray, List.set_cons_zero, List.set_cons_succ]
          refine tkH 27 (v := ?_) rfl (by kernel_rfl) ⟨by rfl, ?_⟩ hS ?_
          rotate_left
          · intro w0 hs; subst hs; go_simp; try (with_reducible rfl)
          try simp only [Act.put, List.setIfInBounds_toArray, List.set_cons_zero, List.set_cons_succ]
          refine tkH 28 (v := ?_) rfl (by kernel_rfl) ⟨by rfl, ?_⟩ hS ?_
          rotate_left
          · intro w0 hs; subst hs; go_simp; try (with_reducible rfl)
          try simp only [Act.put, List.setIfInBounds_toArray, List.set_cons_zero, List.set_cons_succ]
          refine tkH 29 (v := ?_) rfl (by kernel_rfl) ⟨by rfl, ?_⟩ hS ?_
          rotate_left
          · intro w0 hs; subst hs; go_simp; try (with_reducible rfl)
          try simp only [Act.put, List.setIfInBounds_toArray, List.set_cons_zero, List.set_cons_succ]
          refine tkH 30 (v := ?_) rfl (by kernel_rfl) ⟨by rfl, ?_⟩ hS ?_
          rotate_left
          · intro w0 hs; subst hs; go_simp; try (with_reducible rfl)
          try simp only [Act.put, List.setIfInBounds_toArray, List.set_cons_zero, List.set_cons_succ]
          refine tkH 31 (v := ?_) rfl (by kernel_rfl) ⟨by rfl, ?_⟩ hS ?_
          rotate_left
          · intro w0 hs; subst hs; go_simp; try (with_reducible rfl)
          try simp only [Act.put, List.setIfInBounds_toArray, List.set_cons_zero, List.set_cons_succ]
          refine tkH 32 (v := ?_) rfl (by kernel_rfl) ⟨by rfl, ?_⟩ hS ?_
          rotate_left
          · intro w0 hs; subst hs; go_simp; try (with_reducible rfl)
          try simp only [Act.put, List.setIfInBounds_toArray, List.set_cons_zero, List.set_cons_succ]
          refine tkH 33 (v := ?_) rfl (by kernel_rfl) ⟨by rfl, ?_⟩ hS ?_
          rotate_left
          · intro w0 hs; subst hs; go_simp; try (with_reducible rfl)
          try simp only [Act.put, List.setIfInBounds_toArray, List.set_cons_zero, List.set_cons_succ]
          refine tkH 34 (v := ?_) rfl (by kernel_rfl) ⟨by rfl, ?_⟩ hS ?_
          rotate_left
          · intro w0 hs; subst hs; go_simp; try (with_reducible rfl)
          try simp only [Act.put, List.setIfInBounds_toArray, List.set_cons_zero, List.set_cons_succ]
          refine tkH 35 (v := ?_) rfl (by kernel_rfl) ⟨by rfl, ?_⟩ hS ?_
          rotate_left
          · intro w0 hs; subst hs; go_simp; try (with_reducible rfl)
          try simp only [Act.put, List.setIfInBounds_toArray, List.set_cons_zero, List.set_cons_succ]
          refine tkH 36 (v := ?_) rfl (by kernel_rfl) ⟨by rfl, ?_⟩ hS ?_
          rotate_left
          · intro w0 hs; subst hs; go_simp; try (with_reducible rfl)
          try simp only [Act.put, List.setIfInBounds_toArray, List.set_cons_zero, List.set_cons_succ]
          refine tkH 37 (v := ?_) rfl (by kernel_rfl) ⟨by rfl, ?_⟩ hS ?_
          rotate_left
          · intro w0 hs; subst hs; go_simp; try (with_reducible rfl)
          try simp only [Act.put, List.setIfInBounds_toArray, List.set_cons_zero, List.set_cons_succ]
          refine tkH 38 (v := ?_) rfl (by kernel_rfl) ⟨by rfl, ?_⟩ hS ?_
          rotate_left
          · intro w0 hs; subst hs; go_simp; try (with_reducible rfl)
          try simp only [Act.put, List.setIfInBounds_toArray, List.set_cons_zero, List.set_cons_succ]
          refine tkH 39 (v := ?_) rfl (by kernel_rfl) ⟨by rfl, ?_⟩ hS ?_
          rotate_left
          · intro w0 hs; subst hs; go_simp; try (with_reducible rfl)
          try simp only [Act.put, List.setIfInBounds_toArray, List.set_cons_zero, List.set_cons_succ]
          refine wpAnyH_done (by kernel_rfl) ?_ _
          clear hS
          go_wp2
          go_loopg [7, 8, 9, 10, 11, 12, 13, 14, 124] 64 (fun gh va vb vc vd ve vf vg vh i wx => ∃ (k : Nat) (s : Nat → B32), k ≤ 64 ∧ va = .int .u32 (iv (s 0)) ∧ vb = .int .u32 (iv (s 1)) ∧ vc = .int .u32 (iv (s 2)) ∧ vd = .int .u32 (iv (s 3)) ∧ ve = .int .u32 (iv (s 4)) ∧ vf = .int .u32 (iv (s 5)) ∧ vg = .int .u32 (iv (s 6)) ∧ vh = .int .u32 (iv (s 7)) ∧ i = .int .i64 (k : Int) ∧ gh = 64 - k ∧ Hid (s = rnds m σ k ∧ Below w3.heap.size w3 wx))
          case atStart => exact ⟨0, σ, by omega, rfl, rfl, rfl, rfl, rfl, rfl, rfl, rfl, rfl, rfl, rfl, (Below.refl _ _).drew⟩
          case round =>
            clear q0 q1 q2 q3 q4 q5 q6 q7
            obtain ⟨k, s, hk, rfl, rfl, rfl, rfl, rfl, rfl, rfl, rfl, rfl, hg, HS⟩ := hrel
            have HGK := Lib.hid hg
            clear hg
            by_cases hlt : k < 64
            · skip
              have k64 : (k : Int) < 64 := by omega
              have ck : wr.drew.cell? ⟨1, k, none⟩ = some (.int .u32 (iv (kw k))) := (HS.out.2.drew.cell (p := ⟨1, k, none⟩) (cell_lt (HG3.out k hlt))).trans (HG3.out k hlt)
              have cw : wr.drew.cell? ⟨pb + 1, k, none⟩ = some (.int .u32 (iv (shw m k))) := by
                rw [(HW3.out.beyond HS.out.2).drew.cell, List.getElem?_toArray]; exact wcl_get m 64 k hlt (by omega)
              have ADD := iv_add
              have XOR := iv_xor
              have AND := iv_and
              have OR := iv_or
              generalize hkw : kw k = kk at *
              generalize hww : shw m k = ww at *
              have HKW := Lib.hid hkw
              have HWW := Lib.hid hww
              clear hkw hww
              go_upto_region 15 with fail
              refine wp_region_held_drew (S := fun w' => w' = wr.drew) (by kernel_rfl) rfl (fun hS => ?_)
              refine tkH 0 (v := ?_) rfl (by kernel_rfl) ⟨by rfl, ?_⟩ hS ?_
              rotate_left
              · intro w0 hs; subst hs; go_simp; try (with_reducible rfl)
              try simp only [Act.put, List.setIfInBounds_toArray, List.set_cons_zero, List.set_cons_succ]
              refine tkH 1 (v := ?_) rfl (by kernel_rfl) ⟨by rfl, ?_⟩ hS ?_
              rotate_left
              · intro w0 hs; subst hs; go_simp; try (with_reducible rfl)
              try simp only [Act.put, List.setIfInBounds_toArray, List.set_cons_zero, List.set_cons_succ]
              refine tkH 2 (v := ?_) rfl (by kernel_rfl) ⟨by rfl, ?_⟩ hS ?_
              rotate_left
              · intro w0 hs; subst hs; go_simp; try (with_reducible rfl)
              try simp only [Act.put, List.setIfInBounds_toArray, List.set_cons_zero, List.set_cons_succ]
              refine tkH 6 (v := ?_) rfl (by kernel_rfl) ⟨by rfl, ?_⟩ hS ?_
              rotate_left
              · intro w0 hs; subst hs; go_simp; try (with_reducible rfl)
              try simp only [Act.put, List.setIfInBounds_toArray, List.set_cons_zero, List.set_cons_succ]
              refine tkH 7 (v := ?_) rfl (by kernel_rfl) ⟨by rfl, ?_⟩ hS ?_
              rotate_left
              · intro w0 hs; subst hs; go_simp; try (with_reducible rfl)
              try simp only [Act.put, List.setIfInBounds_toArray, List.set_cons_zero, List.set_cons_succ]
              refine tkH 8 (v := ?_) rfl (by kernel_rfl) ⟨by rfl, ?_⟩ hS ?_
              rotate_left
              · intro w0 hs; subst hs; go_simp; try (with_reducible rfl)
              try simp only [Act.put, List.setIfInBounds_toArray, List.set_cons_zero, List.set_cons_succ]
              refine tkH 9 (v := ?_) rfl (by kernel_rfl) ⟨by rfl, ?_⟩ hS ?_
              rotate_left
              · intro w0 hs; subst hs; go_simp; try (with_reducible rfl)
              try simp only [Act.put, List.setIfInBounds_toArray, List.set_cons_zero, List.set_cons_succ]
              refine tkH 10 (v := ?_) rfl (by kernel_rfl) ⟨by rfl, ?_⟩ hS ?_
              rotate_left
              · intro w0 hs; subst hs; go_simp; try (with_reducible rfl)
              try simp only [Act.put, List.setIfInBounds_toArray, List.set_cons_zero, List.set_cons_succ]
              refine tkH 11 (v := ?_) rfl (by kernel_rfl) ⟨by rfl, ?_⟩ hS ?_
              rotate_left
              · intro w0 hs; subst hs; go_simp; try (with_reducible rfl)
              try simp only [Act.put, List.setIfInBounds_toArray, List.set_cons_zero, List.set_cons_succ]
              refine tkH 12 (v := ?_) rfl (by kernel_rfl) ⟨by rfl, ?_⟩ hS ?_
              rotate_left
              · intro w0 hs; subst hs; go_simp; try (with_reducible rfl)
              try simp only [Act.put, List.setIfInBounds_toArray, List.set_cons_zero, List.set_cons_succ]
              refine tkH 14 (v := ?_) rfl (by kernel_rfl) ⟨by rfl, ?_⟩ hS ?_
              rotate_left
              · intro w0 hs; subst hs; go_simp; try (with_reducible rfl)
              try simp only [Act.put, List.setIfInBounds_toArray, List.set_cons_zero, List.set_cons_succ]
              refine tkH 15 (v := ?_) rfl (by kernel_rfl) ⟨by rfl, ?_⟩ hS ?_
              rotate_left
              · intro w0 hs; subst hs; go_simp; try (with_reducible rfl)
              try simp only [Act.put, List.setIfInBounds_toArray, List.set_cons_zero, List.set_cons_succ]
              refine tkH 16 (v := ?_) rfl (by kernel_rfl) ⟨by rfl, ?_⟩ hS ?_
              rotate_left
              · intro w0 hs; subst hs; go_simp; try (with_reducible rfl)
              try simp only [Act.put, List.setIfInBounds_toArray, List.set_cons_zero, List.set_cons_succ]
              refine tkH 18 (v := ?_) rfl (by kernel_rfl) ⟨by rfl, ?_⟩ hS ?_
              rotate_left
              · intro w0 hs; subst hs; go_simp; try (with_reducible rfl)
              try simp only [Act.put, List.setIfInBounds_toArray, List.set_cons_zero, List.set_cons_succ]
              refine tkH 19 (v := ?_) rfl (by kernel_rfl) ⟨by rfl, ?_⟩ hS ?_
              rotate_left
              · intro w0 hs; subst hs; go_simp; try (with_reducible rfl)
              try simp only [Act.put, List.setIfInBounds_toArray, List.set_cons_zero, List.set_cons_succ]
              refine tkH 20 (v := ?_) rfl (by kernel_rfl) ⟨by rfl, ?_⟩ hS ?_
              rotate_left
              · intro w0 hs; subst hs; go_simp; try (with_reducible rfl)
              try simp only [Act.put, List.setIfInBounds_toArray, List.set_cons_zero, List.set_cons_succ]
              refine wpAnyH_ready (rs := [3]) (by kernel_rfl) (by simp) ?_
              refine AllReadyH.cons (o := ⟨_, _, _, _, _, _⟩) rfl (fun K hK => ?_) AllReadyH.nil
              rw [if_pos (by rfl)]
              go_step
              refine (rotl (s 4) 25 (by decide) (by decide) _).mono ?_
              rintro e y1 ⟨rfl, rfl⟩
              simp only []
              refine hK.out _ _ hS (fun hS' => ?_)
              clear hS hK
              have hS := hS'; clear hS'
              try simp only [Act.put, List.setIfInBounds_toArray, List.set_cons_zero, List.set_cons_succ]
              refine wpAnyH_ready (rs := [4]) (by kernel_rfl) (by simp) ?_
              refine AllReadyH.cons (o := ⟨_, _, _, _, _, _⟩) rfl (fun K hK => ?_) AllReadyH.nil
              rw [if_pos (by rfl)]
              go_step
              refine (xor3 (s 4) (ror (s 4) 25) 6 11 (by decide) (by decide) (by decide) (by decide) _).mono ?_
              rintro e y2 ⟨rfl, rfl⟩
              simp only []
              refine hK.out _ _ hS (fun hS' => ?_)
              clear hS hK
              have hS := hS'; clear hS'
              try simp only [Act.put, List.setIfInBounds_toArray, List.set_cons_zero, List.set_cons_succ]
              refine tkH 5 (v := ?_) rfl (by kernel_rfl) ⟨by rfl, ?_⟩ hS ?_
              rotate_left
              · intro w0 hs; subst hs; go_simp; try (with_reducible rfl)
              try simp only [Act.put, List.setIfInBounds_toArray, List.set_cons_zero, List.set_cons_succ]
              refine tkH 13 (v := ?_) rfl (by kernel_rfl) ⟨by rfl, ?_⟩ hS ?_
              rotate_left
              · intro w0 hs; subst hs; go_simp; try (with_reducible rfl)
              try simp only [Act.put, List.setIfInBounds_toArray, List.set_cons_zero, List.set_cons_succ]
              refine tkH 17 (v := ?_) rfl (by kernel_rfl) ⟨by rfl, ?_⟩ hS ?_
              rotate_left
              · intro w0 hs; subst hs; go_simp; try (with_reducible rfl)
              try simp only [Act.put, List.setIfInBounds_toArray, List.set_cons_zero, List.set_cons_succ]
              refine tkH 21 (v := ?_) rfl (by kernel_rfl) ⟨by rfl, ?_⟩ hS ?_
              rotate_left
              · intro w0 hs; subst hs; go_simp; try (with_reducible rfl)
              try simp only [Act.put, List.setIfInBounds_toArray, List.set_cons_zero, List.set_cons_succ]
              refine tkH 22 (v := ?_) rfl (by kernel_rfl) ⟨by rfl, ?_⟩ hS ?_
              rotate_left
              · intro w0 hs; subst hs; go_simp; try (with_reducible rfl)
              try simp only [Act.put, List.setIfInBounds_toArray, List.set_cons_zero, List.set_cons_succ]
              refine wpAnyH_done (by kernel_rfl) ?_ _
              clear hS ck cw
              go_wp2_with fail
              refine (rotl (s 0) 22 (by decide) (by decide) _).mono ?_
              rintro e z1 ⟨rfl, rfl⟩
              go_wp2_with fail
              refine (xor3 (s 0) (ror (s 0) 22) 2 13 (by decide) (by decide) (by decide) (by decide) _).mono ?_
              rintro e z2 ⟨rfl, rfl⟩
              go_wp2
              go_roundg (64 - (k + 1))
              case measure => rw [HGK.out]; omega
              case rel =>
                refine ⟨k + 1, rnd s kk ww, hlt, ?_, rfl, rfl, rfl, ?_, rfl, rfl, rfl, rfl, rfl, ?_, HS.out.2.drew⟩
                · show _ = Value.int .u32 (iv (T1 s kk ww + T2 s))
                  unfold T1 T2
                  rw [← chs_alt, ← maj_alt]; rfl
                · show _ = Value.int .u32 (iv (s 3 + T1 s kk ww))
                  unfold T1
                  rw [← chs_alt]; rfl
                · rw [HS.out.1, ← HKW.out, ← HWW.out]; rfl
            · obtain rfl : k = 64 := by omega
              generalize wr = w5 at *
              have HB5 := Lib.hid (HB3.out.beyond HS.out.2)
              go_wp2
              go_loopg [185] 8 (fun gh i wx => ∃ j : Nat, j ≤ 8 ∧ i = .int .i64 (j : Int) ∧ gh = 8 - j ∧ Hid (Blk wx hb (hcl (fun i => if i < j then σ i + s i else σ i) P n).toArray 140 ∧ Keep (fun g => g = hb) w5 wx))
              case atStart => exact ⟨0, by omega, rfl, rfl, HB5.out, Keep.refl _ _⟩
              case round =>
                obtain ⟨j, hj, rfl, hg, HJ⟩ := hrel
                have HGJ := Lib.hid hg
                clear hg HB5
                by_cases hjl : j < 8
                · skip
                  have hs : (#[.int .u32 (iv (s 0)), .int .u32 (iv (s 1)), .int .u32 (iv (s 2)), .int .u32 (iv (s 3)), .int .u32 (iv (s 4)), .int .u32 (iv (s 5)), .int .u32 (iv (s 6)), .int .u32 (iv (s 7))] : Array Value)[j]? = some (.int .u32 (iv (s j))) := by
                    match j, hjl with
                    | 0, _ => rfl
                    | 1, _ => rfl
                    | 2, _ => rfl
                    | 3, _ => rfl
                    | 4, _ => rfl
                    | 5, _ => rfl
                    | 6, _ => rfl
                    | 7, _ => rfl
                  have gi := fun w => run_index_arr (P := Tryz.prog) 123 122 8 j #[.int .u32 (iv (s 0)), .int .u32 (iv (s 1)), .int .u32 (iv (s 2)), .int .u32 (iv (s 3)), .int .u32 (iv (s 4)), .int .u32 (iv (s 5)), .int .u32 (iv (s 6)), .int .u32 (iv (s 7))] (.int .u32 (iv (s j))) w Tryz.underlying123 (fun w => by kernel_rfl) (fun w => by kernel_rfl) hjl hs
                  have cj : wr.drew.cell? ⟨hb, 1 + j, none⟩ = some (.int .u32 (iv (σ j))) := by
                    rw [HJ.out.1.drew.cell, List.getElem?_toArray, hcl_w _ P n j hjl, if_neg (Nat.lt_irrefl _)]
                  have fj := HJ.out.1.drew.free (1 + j)
                  have j8 : (j : Int) < 8 := by omega
                  have ADD := iv_add
                  clear hs
                  go_upto_region 22 with fail
                  refine wp_region_last 9 (fun w' => w' = wr.drew) (by kernel_rfl) rfl (fun hS => ?_)
                  refine tkL 0 (v := ?_) rfl (by kernel_rfl) ⟨by rfl, ?_⟩ hS ?_
                  rotate_left
                  · intro w0 hs; subst hs; go_simp; try (with_reducible rfl)
                  try simp only [Act.put, List.setIfInBounds_toArray, List.set_cons_zero, List.set_cons_succ]
                  refine tkL 1 (v := ?_) rfl (by kernel_rfl) ⟨by rfl, ?_⟩ hS ?_
                  rotate_left
                  · intro w0 hs; subst hs; go_simp; try (with_reducible rfl)
                  try simp only [Act.put, List.setIfInBounds_toArray, List.set_cons_zero, List.set_cons_succ]
                  refine tkL 2 (v := ?_) rfl (by kernel_rfl) ⟨by rfl, ?_⟩ hS ?_
                  rotate_left
                  · intro w0 hs; subst hs; go_simp; try (with_reducible rfl)
                  try simp only [Act.put, List.setIfInBounds_toArray, List.set_cons_zero, List.set_cons_succ]
                  refine tkL 3 (v := ?_) rfl (by kernel_rfl) ⟨by rfl, ?_⟩ hS ?_
                  rotate_left
                  · intro w0 hs; subst hs; go_simp; try (with_reducible rfl)
                  try simp only [Act.put, List.setIfInBounds_toArray, List.set_cons_zero, List.set_cons_succ]
                  refine tkL 4 (v := ?_) rfl (by kernel_rfl) ⟨by rfl, ?_⟩ hS ?_
                  rotate_left
                  · intro w0 hs; subst hs; go_simp; try (with_reducible rfl)
                  try simp only [Act.put, List.setIfInBounds_toArray, List.set_cons_zero, List.set_cons_succ]
                  refine tkL 5 (v := ?_) rfl (by kernel_rfl) ⟨by rfl, ?_⟩ hS ?_
                  rotate_left
                  · intro w0 hs; subst hs; go_simp; try (with_reducible rfl)
                  try simp only [Act.put, List.setIfInBounds_toArray, List.set_cons_zero, List.set_cons_succ]
                  refine tkL 6 (v := ?_) rfl (by kernel_rfl) ⟨by rfl, ?_⟩ hS ?_
                  rotate_left
                  · intro w0 hs; subst hs; go_simp; try (with_reducible rfl)
                  try simp only [Act.put, List.setIfInBounds_toArray, List.set_cons_zero, List.set_cons_succ]
                  refine wpAnyL_one (i := 7) (oi := ⟨_, _, _, _, _, _⟩) rfl (by kernel_rfl) (fun K hK => ?_)
                  rw [if_pos (by rfl)]
                  go_simp
                  refine hK.out _ _ (.inr hS) ?_
                  clear hK
                  try simp only [Act.put, List.setIfInBounds_toArray, List.set_cons_zero, List.set_cons_succ]
                  refine tkL 8 (v := ?_) rfl (by kernel_rfl) ⟨by rfl, ?_⟩ hS ?_
                  rotate_left
                  · intro w0 hs; subst hs; go_simp; try (with_reducible rfl)
                  try simp only [Act.put, List.setIfInBounds_toArray, List.set_cons_zero, List.set_cons_succ]
                  refine wpAnyL_one (i := 9) (oi := ⟨_, _, _, _, _, _⟩) rfl (by kernel_rfl) (fun K hK => ?_)
                  rw [if_pos (by rfl)]
                  clear hS
                  go_simp
                  refine hK.out _ _ (.inl rfl) ?_
                  clear hK
                  try simp only [Act.put, List.setIfInBounds_toArray, List.set_cons_zero, List.set_cons_succ]
                  refine wpAnyL_done (by kernel_rfl) ?_ _
                  go_wp2
                  go_roundg (8 - (j + 1))
                  case measure => rw [HGJ.out]; omega
                  case rel =>
                    refine ⟨j + 1, hjl, rfl, rfl, ?_, HJ.out.2.trans (((Keep.refl (fun g => g = hb) wr).set (p := ⟨hb, 1 + j, none⟩) (.inl rfl) _).drew)⟩
                    have := (HJ.out.1.set (1 + j) (.int .u32 (iv (σ j + s j)))).drew
                    rw [hcl_setw _ P n j _ hjl] at this
                    rw [hcl_ext (τ := fun k => if k = j then σ j + s j else if k < j then σ k + s k else σ k) (Q := P) (m := n) (fun i hi => ?_) (fun _ _ => rfl) rfl]
                    · exact this
                    · by_cases h1 : i = j
                      · subst h1; rw [if_pos (by omega), if_pos rfl]
                      · rw [if_neg h1]
                        by_cases h2 : i < j
                        · rw [if_pos (by omega), if_pos h2]
                        · rw [if_neg (by omega), if_neg h2]
                · obtain rfl : j = 8 := by omega
                  go_wp2
                  go_end0
                  have hw5 : Keep (fun k => k = hb) w3 w5 := Keep.of_below HS.out.2
                  refine ⟨rfl, ?_, (K3.out.mono (fun _ h => h.elim)).trans (hw5.trans HJ.out.2)⟩
                  rw [hcl_ext (τ := fun i => if i < 8 then σ i + s i else σ i) (Q := P) (m := n) (fun i hi => ?_) (fun _ _ => rfl) rfl]
                  · exact HJ.out.1
                  · rw [if_pos hi, HS.out.1, HM.out]; rfl
end Go.Proofs.YtbjbjgfjaopibaaGreatDoor
end
