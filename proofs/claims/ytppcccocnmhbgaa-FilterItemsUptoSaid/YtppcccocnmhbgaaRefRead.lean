/- The document's reader of bits. -/
import Derived.Test.YtppcccocnmhbgaaReadE
namespace Go.Proofs.Ytppcccocnmhbgaa
open Go Go.RowKit
set_option maxRecDepth 100000
set_option linter.unusedSimpArgs false
set_option linter.unusedVariables false

/-- the document's reader in memory, and the bits that are left -/
def RfAt (w : World) (r : Nat) (s : List Bool) : Prop :=
  ∃ (q : Option Addr) (c A : Nat) (Z : List Int), Blk w r #[.slice q Z.length c, .int .i64 (A : Int)] 124 ∧ Lib.BytesIn w q Z.length Z ∧ (∀ a, q = some a → a.block < r) ∧ (∀ x ∈ Z, 0 ≤ x ∧ x < 256) ∧ Z.length ≤ 140737488355328 ∧ A ≤ 8 * Z.length ∧ s = (unpack Z).drop A
theorem RfAt.keep {X : Nat → Prop} {w w' : World} {r : Nat} {s : List Bool} (h : RfAt w r s) (hk : Keep X w w') (hn : ∀ k, k < w.heap.size → ¬ X k) : RfAt w' r s := by
  obtain ⟨q, c, A, Z, h1, h2, h3⟩ := h
  exact ⟨q, c, A, Z, hk.blk h1 (hn r h1.lt), bytes_keep h2 hk (fun h0 a ha => hn _ (bytes_lt h2 h0 a ha)), h3⟩
theorem RfAt.up {X : Nat → Prop} {w w' : World} {r : Nat} {s : List Bool} (h : RfAt w r s) (hk : Keep X w w') (hn : ∀ k, k ≤ r → ¬ X k) : RfAt w' r s := by
  obtain ⟨q, c, A, Z, h1, h2, h3, h4⟩ := h
  exact ⟨q, c, A, Z, hk.blk h1 (hn r (Nat.le_refl _)), bytes_keep h2 hk (fun h0 a ha => hn _ (Nat.le_of_lt (h3 a ha))), h3, h4⟩
theorem RfAt.below {w w' : World} {r : Nat} {s : List Bool} (h : RfAt w r s) (hk : Below w.heap.size w w') : RfAt w' r s :=
  h.keep (X := fun _ => False) (Keep.of_below hk) (fun _ _ h => h)
theorem RfAt.len {w : World} {r : Nat} {s : List Bool} (h : RfAt w r s) : s.length ≤ 1125899906842624 := by
  obtain ⟨q, c, A, Z, _, _, _, _, h1, h2, rfl⟩ := h
  rw [List.length_drop, unpack_length]; omega
theorem wleft (r : Nat) (s : List Bool) (w : World) (h : RfAt w r s) :
    Calls Try.prog 57 #[.pointer (some ⟨r, 0, none⟩)] w fun e w' => e = .returned (.int .i64 (s.length : Int)) ∧ w' = w.drew := by
  obtain ⟨q, c, A, Z, h1, h2, h3, h4, h5, h6, rfl⟩ := h
  have cc := h1.cell
  have hl : (((unpack Z).drop A).length : Int) = 8 * Z.length - A := by
    rw [List.length_drop, unpack_length]; omega
  have HL := Lib.hid hl
  clear h1 h2 h3 h4 hl
  go_enter Try.func57, Try.ntmps57
  go_wp2
  go_region
  go_wp2
  go_ret
  exact ⟨by rw [HL.out]; rfl, rfl⟩
theorem wbit0 (r : Nat) (w : World) (h : RfAt w r []) :
    Calls Try.prog 86 #[.pointer (some ⟨r, 0, none⟩)] w fun e w' => e = .returned (.tuple #[.bool false, .int .i64 50]) ∧ Keep (fun k => k = r) w w' := by
  have PL := Lib.hid (wleft r [] w h)
  clear h
  go_enter Try.func86, Try.ntmps86
  go_wp2_with fail
  refine PL.out.mono ?_
  rintro e w1 ⟨rfl, rfl⟩
  go_wp2
  go_ret2
  exact ⟨rfl, (Keep.refl (fun k => k = r) w).drew⟩
set_option maxHeartbeats 1600000 in
theorem wbit (r : Nat) (b : Bool) (s : List Bool) (w : World) (h : RfAt w r (b :: s)) :
    Calls Try.prog 86 #[.pointer (some ⟨r, 0, none⟩)] w fun e w' => e = .returned (.tuple #[.bool b, .int .i64 0]) ∧ RfAt w' r s ∧ Keep (fun k => k = r) w w' := by
  have PL := Lib.hid (wleft r (b :: s) w h)
  have hl := Lib.hid (show (((b :: s).length : Int) == 0) = false from beq_false_of_ne (by simp; omega))
  obtain ⟨q, c, A, Z, h1, h2, h3, h4, h5, h6, hs⟩ := h
  have hA : A < 8 * Z.length := by
    have := congrArg List.length hs
    rw [List.length_drop, unpack_length] at this
    simp at this; omega
  have hd := List.drop_eq_getElem_cons (l := unpack Z) (i := A) (by rw [unpack_length]; exact hA)
  rw [hd] at hs
  injection hs with hb hs
  have hg := unpack_get Z A hA
  rw [List.getElem?_eq_getElem (by rw [unpack_length]; exact hA)] at hg
  rw [← hb] at hg
  have hg := Option.some.inj hg
  obtain ⟨J, hJ⟩ : ∃ J, J = A / 8 := ⟨_, rfl⟩
  obtain ⟨t, ht⟩ : ∃ t, t = A % 8 := ⟨_, rfl⟩
  rw [← hJ, ← ht] at hg
  have hJl : J < Z.length := by omega
  have ht8 : t < 8 := by omega
  have hx : 0 ≤ Z.getD J 0 ∧ Z.getD J 0 < 256 := by
    rw [List.getD_eq_getElem?_getD, List.getElem?_eq_getElem hJl]; exact h4 _ (List.getElem_mem _)
  obtain ⟨qb, qo, rfl, hc⟩ := h2.at (by omega)
  have cz := hc J hJl
  have hz := zb_val (Z.getD J 0) t hx.1 hx.2
  rw [← hg] at hz
  generalize Z.getD J 0 = x at *
  have n0 : qb < r := h3 _ rfl
  have n1 : qb ≠ r := Nat.ne_of_lt n0
  have m1 : IntKind.i64.wrap ((A : Int) + 1) = (A : Int) + 1 := by rw [IntKind.wrap_i64]; omega
  have m2 : IntKind.i64.wrap (A : Int) = (A : Int) := by rw [IntKind.wrap_i64]; omega
  have m3 : IntKind.i64.wrap ((A : Int).tdiv 8) = (J : Int) := by rw [Int.tdiv_eq_ediv_of_nonneg (by omega), IntKind.wrap_i64]; omega
  have m4 : IntKind.i64.wrap ((A : Int).tmod 8) = (t : Int) := by rw [Int.tmod_eq_emod_of_nonneg (by omega), IntKind.wrap_i64]; omega
  have m3' : IntKind.i64.wrap ((A : Int) / 8) = (J : Int) := by rw [IntKind.wrap_i64]; omega
  have m4' : IntKind.i64.wrap ((A : Int) % 8) = (t : Int) := by rw [IntKind.wrap_i64]; omega
  have m4'' : (A : Int) % 8 = (t : Int) := by omega
  have m4t : (A : Int).tmod 8 = (t : Int) := by rw [Int.tmod_eq_emod_of_nonneg (by omega)]; omega
  have m5 : IntKind.i64.wrap (7 - (t : Int)) = 7 - (t : Int) := by rw [IntKind.wrap_i64]; omega
  have m6 : (J : Int) < (Z.length : Int) := by omega
  have e3 : Op.shift .shr .u8 x .i64 (7 - (t : Int)) = pure (.int .u8 (x / 2 ^ (7 - t))) := by
    rw [shift_shr .u8 .i64 x (7 - (t : Int)) (by omega) (by show 7 - (t : Int) ≤ 8; omega), show (7 - (t : Int)).toNat = 7 - t from by omega]
  have hbt := tb_eq b
  have cc := h1.cell
  have ff := h1.free
  have B1 := Lib.hid (h1.set 1 (.int .i64 ((A : Int) + 1)))
  have K1 := Lib.hid ((Keep.refl (fun k => k = r) w).set (p := ⟨r, 1, none⟩) (.inl rfl) (.int .i64 ((A : Int) + 1)))
  have c1 : (w.setCell ⟨r, 1, none⟩ (.int .i64 ((A : Int) + 1))).cell? ⟨qb, qo + J, none⟩ = some (.int .u8 x) := (K1.out.cell (p := ⟨qb, qo + J, none⟩) (cell_lt cz) n1).trans cz
  have HS := Lib.hid (And.intro h2 (And.intro h4 (And.intro h5 hs)))
  clear h1 h2 h3 h4 hs hd hc cz hJ ht hx hb hg
  go_enter Try.func86, Try.ntmps86
  go_wp2_with fail
  refine PL.out.mono ?_
  rintro e w1 ⟨rfl, rfl⟩
  have hl := hl.out
  generalize ((b :: s).length : Int) = L at *
  go_upto_region 4 with fail
  have hw : ((w.setCell ⟨r, 1, none⟩ (.int .i64 ((A : Int) + 1))).drew) = (w.setCell ⟨r, 1, none⟩ (.int .i64 ((A : Int) + 1))).drew := rfl
  generalize w.setCell ⟨r, 1, none⟩ (.int .i64 ((A : Int) + 1)) = W at *
  clear hw cc ff
  have cc := B1.out.cell
  refine wp_region_held_drew (S := fun w' => w' = W.drew.drew) (by kernel_rfl) rfl (fun hS => ?_)
  refine wpAnyH_take (i := 0) (oi := ⟨_, _, _, _, _, _⟩) (v := ?_) rfl (by kernel_rfl) (by kernel_rfl) (by kernel_rfl) (fun _ _ _ h => h) (Or.inl ⟨by rfl, ?_⟩) hS ?_
  rotate_left
  · intro w0 hs; subst hs; go_simp; try (with_reducible rfl)
  try simp only [Act.put, List.setIfInBounds_toArray, List.set_cons_zero, List.set_cons_succ]
  refine wpAnyH_take (i := 1) (oi := ⟨_, _, _, _, _, _⟩) (v := ?_) rfl (by kernel_rfl) (by kernel_rfl) (by kernel_rfl) (fun _ _ _ h => h) (Or.inl ⟨by rfl, ?_⟩) hS ?_
  rotate_left
  · intro w0 hs; subst hs; go_simp; try (with_reducible rfl)
  try simp only [Act.put, List.setIfInBounds_toArray, List.set_cons_zero, List.set_cons_succ]
  refine wpAnyH_take (i := 2) (oi := ⟨_, _, _, _, _, _⟩) (v := ?_) rfl (by kernel_rfl) (by kernel_rfl) (by kernel_rfl) (fun _ _ _ h => h) (Or.inl ⟨by rfl, ?_⟩) hS ?_
  rotate_left
  · intro w0 hs; subst hs; go_simp; try (with_reducible rfl)
  try simp only [Act.put, List.setIfInBounds_toArray, List.set_cons_zero, List.set_cons_succ]
  refine wpAnyH_take (i := 3) (oi := ⟨_, _, _, _, _, _⟩) (v := ?_) rfl (by kernel_rfl) (by kernel_rfl) (by kernel_rfl) (fun _ _ _ h => h) (Or.inl ⟨by rfl, ?_⟩) hS ?_
  rotate_left
  · intro w0 hs; subst hs; go_simp; try (with_reducible rfl)
  try simp only [Act.put, List.setIfInBounds_toArray, List.set_cons_zero, List.set_cons_succ]
  refine wpAnyH_take (i := 4) (oi := ⟨_, _, _, _, _, _⟩) (v := ?_) rfl (by kernel_rfl) (by kernel_rfl) (by kernel_rfl) (fun _ _ _ h => h) (Or.inl ⟨by rfl, ?_⟩) hS ?_
  rotate_left
  · intro w0 hs; subst hs; go_simp; try (with_reducible rfl)
  try simp only [Act.put, List.setIfInBounds_toArray, List.set_cons_zero, List.set_cons_succ]
  refine wpAnyH_take (i := 5) (oi := ⟨_, _, _, _, _, _⟩) (v := ?_) rfl (by kernel_rfl) (by kernel_rfl) (by kernel_rfl) (fun _ _ _ h => h) (Or.inl ⟨by rfl, ?_⟩) hS ?_
  rotate_left
  · intro w0 hs; subst hs; go_simp; try (with_reducible rfl)
  try simp only [Act.put, List.setIfInBounds_toArray, List.set_cons_zero, List.set_cons_succ]
  refine wpAnyH_take (i := 6) (oi := ⟨_, _, _, _, _, _⟩) (v := ?_) rfl (by kernel_rfl) (by kernel_rfl) (by kernel_rfl) (fun _ _ _ h => h) (Or.inl ⟨by rfl, ?_⟩) hS ?_
  rotate_left
  · intro w0 hs; subst hs; go_simp; try (with_reducible rfl)
  try simp only [Act.put, List.setIfInBounds_toArray, List.set_cons_zero, List.set_cons_succ]
  refine wpAnyH_take (i := 7) (oi := ⟨_, _, _, _, _, _⟩) (v := ?_) rfl (by kernel_rfl) (by kernel_rfl) (by kernel_rfl) (fun _ _ _ h => h) (Or.inl ⟨by rfl, ?_⟩) hS ?_
  rotate_left
  · intro w0 hs; subst hs; go_simp; try (with_reducible rfl)
  try simp only [Act.put, List.setIfInBounds_toArray, List.set_cons_zero, List.set_cons_succ]
  refine wpAnyH_take (i := 8) (oi := ⟨_, _, _, _, _, _⟩) (v := ?_) rfl (by kernel_rfl) (by kernel_rfl) (by kernel_rfl) (fun _ _ _ h => h) (Or.inl ⟨by rfl, ?_⟩) hS ?_
  rotate_left
  · intro w0 hs; subst hs; go_simp; try (with_reducible rfl)
  try simp only [Act.put, List.setIfInBounds_toArray, List.set_cons_zero, List.set_cons_succ]
  refine wpAnyH_take (i := 9) (oi := ⟨_, _, _, _, _, _⟩) (v := ?_) rfl (by kernel_rfl) (by kernel_rfl) (by kernel_rfl) (fun _ _ _ h => h) (Or.inl ⟨by rfl, ?_⟩) hS ?_
  rotate_left
  · intro w0 hs; subst hs; go_simp; try (with_reducible rfl)
  try simp only [Act.put, List.setIfInBounds_toArray, List.set_cons_zero, List.set_cons_succ]
  refine wpAnyH_take (i := 10) (oi := ⟨_, _, _, _, _, _⟩) (v := ?_) rfl (by kernel_rfl) (by kernel_rfl) (by kernel_rfl) (fun _ _ _ h => h) (Or.inl ⟨by rfl, ?_⟩) hS ?_
  rotate_left
  · intro w0 hs; subst hs; go_simp; try (with_reducible rfl)
  try simp only [Act.put, List.setIfInBounds_toArray, List.set_cons_zero, List.set_cons_succ]
  refine wpAnyH_take (i := 11) (oi := ⟨_, _, _, _, _, _⟩) (v := ?_) rfl (by kernel_rfl) (by kernel_rfl) (by kernel_rfl) (fun _ _ _ h => h) (Or.inl ⟨by rfl, ?_⟩) hS ?_
  rotate_left
  · intro w0 hs; subst hs; go_simp; try (with_reducible rfl)
  try simp only [Act.put, List.setIfInBounds_toArray, List.set_cons_zero, List.set_cons_succ]
  refine wpAnyH_take (i := 12) (oi := ⟨_, _, _, _, _, _⟩) (v := ?_) rfl (by kernel_rfl) (by kernel_rfl) (by kernel_rfl) (fun _ _ _ h => h) (Or.inl ⟨by rfl, ?_⟩) hS ?_
  rotate_left
  · intro w0 hs; subst hs; go_simp; try (with_reducible rfl)
  try simp only [Act.put, List.setIfInBounds_toArray, List.set_cons_zero, List.set_cons_succ]
  refine wpAnyH_take (i := 13) (oi := ⟨_, _, _, _, _, _⟩) (v := ?_) rfl (by kernel_rfl) (by kernel_rfl) (by kernel_rfl) (fun _ _ _ h => h) (Or.inl ⟨by rfl, ?_⟩) hS ?_
  rotate_left
  · intro w0 hs; subst hs; go_simp; try (with_reducible rfl)
  try simp only [Act.put, List.setIfInBounds_toArray, List.set_cons_zero, List.set_cons_succ]
  refine wpAnyH_take (i := 14) (oi := ⟨_, _, _, _, _, _⟩) (v := ?_) rfl (by kernel_rfl) (by kernel_rfl) (by kernel_rfl) (fun _ _ _ h => h) (Or.inl ⟨by rfl, ?_⟩) hS ?_
  rotate_left
  · intro w0 hs; subst hs; go_simp; try (with_reducible rfl)
  try simp only [Act.put, List.setIfInBounds_toArray, List.set_cons_zero, List.set_cons_succ]
  refine wpAnyH_take (i := 15) (oi := ⟨_, _, _, _, _, _⟩) (v := ?_) rfl (by kernel_rfl) (by kernel_rfl) (by kernel_rfl) (fun _ _ _ h => h) (Or.inl ⟨by rfl, ?_⟩) hS ?_
  rotate_left
  · intro w0 hs; subst hs; go_simp; try (with_reducible rfl)
  try simp only [Act.put, List.setIfInBounds_toArray, List.set_cons_zero, List.set_cons_succ]
  refine wpAnyH_take (i := 16) (oi := ⟨_, _, _, _, _, _⟩) (v := ?_) rfl (by kernel_rfl) (by kernel_rfl) (by kernel_rfl) (fun _ _ _ h => h) (Or.inl ⟨by rfl, ?_⟩) hS ?_
  rotate_left
  · intro w0 hs; subst hs; go_simp; try (with_reducible rfl)
  try simp only [Act.put, List.setIfInBounds_toArray, List.set_cons_zero, List.set_cons_succ]
  refine wpAnyH_take (i := 17) (oi := ⟨_, _, _, _, _, _⟩) (v := ?_) rfl (by kernel_rfl) (by kernel_rfl) (by kernel_rfl) (fun _ _ _ h => h) (Or.inl ⟨by rfl, ?_⟩) hS ?_
  rotate_left
  · intro w0 hs; subst hs; go_simp; try (with_reducible rfl)
  try simp only [Act.put, List.setIfInBounds_toArray, List.set_cons_zero, List.set_cons_succ]
  refine wpAnyH_take (i := 18) (oi := ⟨_, _, _, _, _, _⟩) (v := ?_) rfl (by kernel_rfl) (by kernel_rfl) (by kernel_rfl) (fun _ _ _ h => h) (Or.inl ⟨by rfl, ?_⟩) hS ?_
  rotate_left
  · intro w0 hs; subst hs; go_simp; try (with_reducible rfl)
  try simp only [Act.put, List.setIfInBounds_toArray, List.set_cons_zero, List.set_cons_succ]
  refine wpAnyH_take (i := 19) (oi := ⟨_, _, _, _, _, _⟩) (v := ?_) rfl (by kernel_rfl) (by kernel_rfl) (by kernel_rfl) (fun _ _ _ h => h) (Or.inl ⟨by rfl, ?_⟩) hS ?_
  rotate_left
  · intro w0 hs; subst hs; go_simp; try (with_reducible rfl)
  try simp only [Act.put, List.setIfInBounds_toArray, List.set_cons_zero, List.set_cons_succ]
  refine wpAnyH_take (i := 20) (oi := ⟨_, _, _, _, _, _⟩) (v := ?_) rfl (by kernel_rfl) (by kernel_rfl) (by kernel_rfl) (fun _ _ _ h => h) (Or.inl ⟨by rfl, ?_⟩) hS ?_
  rotate_left
  · intro w0 hs; subst hs; go_simp; try (with_reducible rfl)
  try simp only [Act.put, List.setIfInBounds_toArray, List.set_cons_zero, List.set_cons_succ]
  refine wpAnyH_take (i := 21) (oi := ⟨_, _, _, _, _, _⟩) (v := ?_) rfl (by kernel_rfl) (by kernel_rfl) (by kernel_rfl) (fun _ _ _ h => h) (Or.inl ⟨by rfl, ?_⟩) hS ?_
  rotate_left
  · intro w0 hs; subst hs; go_simp; try (with_reducible rfl)
  try simp only [Act.put, List.setIfInBounds_toArray, List.set_cons_zero, List.set_cons_succ]
  refine wpAnyH_take (i := 22) (oi := ⟨_, _, _, _, _, _⟩) (v := ?_) rfl (by kernel_rfl) (by kernel_rfl) (by kernel_rfl) (fun _ _ _ h => h) (Or.inl ⟨by rfl, ?_⟩) hS ?_
  rotate_left
  · intro w0 hs; subst hs; go_simp; try (with_reducible rfl)
  try simp only [Act.put, List.setIfInBounds_toArray, List.set_cons_zero, List.set_cons_succ]
  refine wpAnyH_take (i := 23) (oi := ⟨_, _, _, _, _, _⟩) (v := ?_) rfl (by kernel_rfl) (by kernel_rfl) (by kernel_rfl) (fun _ _ _ h => h) (Or.inl ⟨by rfl, ?_⟩) hS ?_
  rotate_left
  · intro w0 hs; subst hs; go_simp; try (with_reducible rfl)
  try simp only [Act.put, List.setIfInBounds_toArray, List.set_cons_zero, List.set_cons_succ]
  refine wpAnyH_done (by kernel_rfl) ?_ _
  clear hS
  go_wp2
  go_ret2
  exact ⟨rfl, ⟨some ⟨qb, qo, none⟩, c, A + 1, Z, B1.out.drew.drew, bytes_keep HS.out.1 K1.out.drew.drew (fun _ a ha e => by cases ha; exact n1 e), fun a ha => (by cases ha; exact n0), HS.out.2.1, HS.out.2.2.1, hA, HS.out.2.2.2⟩, K1.out.drew.drew⟩
set_option maxHeartbeats 1600000 in
theorem wbits (r : Nat) (s : List Bool) (C : Nat) (w : World) (h : RfAt w r s) (hC : C ≤ 64) (hs : C ≤ s.length) :
    Calls Try.prog 58 #[.pointer (some ⟨r, 0, none⟩), .int .i64 (C : Int)] w fun e w' => e = .returned (.tuple #[.int .u64 (valOf (s.take C) : Int), .int .i64 0]) ∧ RfAt w' r (s.drop C) ∧ Keep (fun k => k = r) w w' := by
  have hlen := h.len
  have PL := Lib.hid (wleft r s w h)
  have H := Lib.hid (h.below (Below.refl _ _).drew)
  have hl : decide ((s.length : Int) < (C : Int)) = false := decide_eq_false (by omega)
  have hl2 : decide (s.length < C) = false := decide_eq_false (by omega)
  have hl3 : ¬ s.length < C := by omega
  have d1 : decide ((C : Int) < 0) = false := decide_eq_false (by omega)
  have d2 : decide (64 < (C : Int)) = false := decide_eq_false (by omega)
  have HSL := Lib.hid hs
  clear h
  go_enter Try.func58, Try.ntmps58
  go_wp2_with fail
  refine PL.out.mono ?_
  rintro e w1 ⟨rfl, rfl⟩
  go_wp2
  go_loopg [6, 20] C (fun g n i wx => ∃ (k V : Nat), k ≤ C ∧ n = .int .u64 (V : Int) ∧ i = .int .i64 (k : Int) ∧ g = C - k ∧ Hid (V = valOf (s.take k) ∧ RfAt wx r (s.drop k) ∧ Keep (fun k => k = r) w wx))
  case atStart => exact ⟨0, 0, by omega, rfl, rfl, rfl, by simp [valOf], H.out, (Keep.refl _ _).drew⟩
  case round =>
    obtain ⟨k, V, hk, rfl, rfl, hg, HM⟩ := hrel
    by_cases hlt : k < C
    · have hks : k < s.length := Nat.lt_of_lt_of_le hlt HSL.out
      have hV : V < 9223372036854775808 := by
        have h1 := valOf_lt (s.take k)
        rw [← HM.out.1, List.length_take] at h1
        have h2 : 2 ^ (min k s.length) ≤ 2 ^ 63 := Nat.pow_le_pow_right (by decide) (by omega)
        omega
      have hR := HM.out.2.1
      rw [drop_cons s k hks] at hR
      have hT := Lib.hid (take_snoc s k hks)
      generalize s.getD k false = bk at *
      have hob := or_bit1 V bk hV
      have PX := Lib.hid (wbit r bk _ wr hR)
      have HG := Lib.hid (And.intro hg hks)
      clear hR hg hks
      cases bk with
      | true =>
        go_wp2_with fail
        refine PX.out.mono ?_
        rintro e w1 ⟨rfl, h1, h2⟩
        have H1 := Lib.hid h1
        have H2 := Lib.hid h2
        clear h1 h2
        have hob : bits .or .u64 ((V : Int) * 2) 1 = ((2 * V + 1 : Nat) : Int) := hob
        go_wp2
        go_roundg (C - (k + 1))
        case measure => rw [HG.out.1]; omega
        case rel => exact ⟨k + 1, 2 * V + 1, by omega, by first | rfl | (rw [hob]), rfl, rfl, by rw [hT.out, valOf_snoc, HM.out.1]; rfl, H1.out, HM.out.2.2.trans H2.out⟩
      | false =>
        clear hob
        go_wp2_with fail
        refine PX.out.mono ?_
        rintro e w1 ⟨rfl, h1, h2⟩
        have H1 := Lib.hid h1
        have H2 := Lib.hid h2
        clear h1 h2
        go_wp2
        go_roundg (C - (k + 1))
        case measure => rw [HG.out.1]; omega
        case rel => exact ⟨k + 1, 2 * V, by omega, by go_num, rfl, rfl, by rw [hT.out, valOf_snoc, HM.out.1]; rfl, H1.out, HM.out.2.2.trans H2.out⟩
    · obtain rfl : k = C := by omega
      go_wp2
      go_ret2
      exact ⟨by rw [HM.out.1]; rfl, HM.out.2.1, HM.out.2.2⟩
theorem wbitsE (r : Nat) (s : List Bool) (C : Nat) (w : World) (h : RfAt w r s) (hC : C ≤ 64) (hs : s.length < C) :
    Calls Try.prog 58 #[.pointer (some ⟨r, 0, none⟩), .int .i64 (C : Int)] w fun e w' => e = .returned (.tuple #[.int .u64 0, .int .i64 50]) ∧ Keep (fun k => k = r) w w' := by
  have hlen := h.len
  have PL := Lib.hid (wleft r s w h)
  have hl : decide ((s.length : Int) < (C : Int)) = true := decide_eq_true (by omega)
  have hl2 : decide (s.length < C) = true := decide_eq_true (by omega)
  have d1 : decide ((C : Int) < 0) = false := decide_eq_false (by omega)
  have d2 : decide (64 < (C : Int)) = false := decide_eq_false (by omega)
  clear h
  go_enter Try.func58, Try.ntmps58
  go_wp2_with fail
  refine PL.out.mono ?_
  rintro e w1 ⟨rfl, rfl⟩
  go_wp2
  go_ret2
  exact ⟨rfl, (Keep.refl (fun k => k = r) w).drew⟩
end Go.Proofs.Ytppcccocnmhbgaa
