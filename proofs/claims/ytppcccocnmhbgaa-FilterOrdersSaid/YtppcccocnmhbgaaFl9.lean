import Derived.Test.YtppcccocnmhbgaaFl8
import Derived.Test.YtppcccocnmhbgaaFl7
import Derived.Test.YtppcccocnmhbgaaFl6
section
/- The document's reader of bits. -/
namespace Go.Proofs.Ytppcccocnmhbgaa
open Go Go.RowKit
set_option maxRecDepth 100000
set_option linter.unusedSimpArgs false
set_option linter.unusedVariables false

/-- the document's reader in memory, and the bits that are left -/
def RfAt (w : World) (r : Nat) (s : List Bool) : Prop :=
  ∃ (q : Option Addr) (c A : Nat) (Z : List Int), Blk w r #[.slice q Z.length c, .int .i64 (A : Int)] 124 ∧ Lib.BytesIn w q Z.length Z ∧ (∀ a, q = some a → a.block < r) ∧ (∀ x ∈ Z, 0 ≤ x ∧ x < 256) ∧ Z.length ≤ 140737488355328 ∧ A ≤ 8 * Z.length ∧ s = (unpack Z).drop A
theorem RfAt.keep {X : Nat → Prop} {w w' : World} {r : Nat} {s : List Bool} (h : RfAt w r s) (hk : Keep X w w') (hn : ∀ k, k < w.heap.size → ¬ X k) : RfAt w' r s := by
  obtain ⟨q, c, A, Z, h1, h2, h3⟩ := h
  exact ⟨q, c, A, Z, hk.blk h1 (hn r h1.lt), bytes_keep h2 hk (fun h0 a ha => hn _ (bytes_lt h2 h0 a ha)), h3⟩
theorem RfAt.up {X : Nat → Prop} {w w' : World} {r : Nat} {s : List Bool} (h : RfAt w r s) (hk : Keep X w w') (hn : ∀ k, k ≤ r → ¬ X k) : RfAt w' r s := by
  obtain ⟨q, c, A, Z, h1, h2, h3, h4⟩ := h
  exact ⟨q, c, A, Z, hk.blk h1 (hn r (Nat.le_refl _)), bytes_keep h2 hk (fun h0 a ha => hn _ (Nat.le_of_lt (h3 a ha))), h3, h4⟩
theorem RfAt.below {w w' : World} {r : Nat} {s : List Bool} (h : RfAt w r s) (hk : Below w.heap.size w w') : RfAt w' r s :=
  h.keep (X := fun _ => False) (Keep.of_below hk) (fun _ _ h => h)
theorem RfAt.len {w : World} {r : Nat} {s : List Bool} (h : RfAt w r s) : s.length ≤ 1125899906842624 := by
  obtain ⟨q, c, A, Z, _, _, _, _, h1, h2, rfl⟩ := h
  rw [List.length_drop, unpack_length]; omega
theorem wleft (r : Nat) (s : List Bool) (w : World) (h : RfAt w r s) :
    Calls Try.prog 57 #[.pointer (some ⟨r, 0, none⟩)] w fun e w' => e = .returned (.int .i64 (s.length : Int)) ∧ w' = w.drew := by
  obtain ⟨q, c, A, Z, h1, h2, h3, h4, h5, h6, rfl⟩ := h
  have cc := h1.cell
  have hl : (((unpack Z).drop A).length : Int) = 8 * Z.length - A := by
    rw [List.length_drop, unpack_length]; omega
  have HL := Lib.hid hl
  clear h1 h2 h3 h4 hl
  go_enter Try.func57, Try.ntmps57
  go_wp2
  go_region
  go_wp2
  go_ret
  exact ⟨by rw [HL.out]; rfl, rfl⟩
theorem wbit0 (r : Nat) (w : World) (h : RfAt w r []) :
    Calls Try.prog 86 #[.pointer (some ⟨r, 0, none⟩)] w fun e w' => e = .returned (.tuple #[.bool false, .int .i64 50]) ∧ Keep (fun k => k = r) w w' := by
  have PL := Lib.hid (wleft r [] w h)
  clear h
  go_enter Try.func86, Try.ntmps86
  go_wp2_with fail
  refine PL.out.mono ?_
  rintro e w1 ⟨rfl, rfl⟩
  go_wp2
  go_ret2
  exact ⟨rfl, (Keep.refl (fun k => k = r) w).drew⟩
set_option maxHeartbeats 1600000 in
theorem wbit (r : Nat) (b : Bool) (s : List Bool) (w : World) (h : RfAt w r (b :: s)) :
    Calls Try.prog 86 #[.pointer (some ⟨r, 0, none⟩)] w fun e w' => e = .returned (.tuple #[.bool b, .int .i64 0]) ∧ RfAt w' r s ∧ Keep (fun k => k = r) w w' := by
  have PL := Lib.hid (wleft r (b :: s) w h)
  have hl := Lib.hid (show (((b :: s).length : Int) == 0) = false from beq_false_of_ne (by simp; omega))
  obtain ⟨q, c, A, Z, h1, h2, h3, h4, h5, h6, hs⟩ := h
  have hA : A < 8 * Z.length := by
    have := congrArg List.length hs
    rw [List.length_drop, unpack_length] at this
    simp at this; omega
  have hd := List.drop_eq_getElem_cons (l := unpack Z) (i := A) (by rw [unpack_length]; exact hA)
  rw [hd] at hs
  injection hs with hb hs
  have hg := unpack_get Z A hA
  rw [List.getElem?_eq_getElem (by rw [unpack_length]; exact hA)] at hg
  rw [← hb] at hg
  have hg := Option.some.inj hg
  obtain ⟨J, hJ⟩ : ∃ J, J = A / 8 := ⟨_, rfl⟩
  obtain ⟨t, ht⟩ : ∃ t, t = A % 8 := ⟨_, rfl⟩
  rw [← hJ, ← ht] at hg
  have hJl : J < Z.length := by omega
  have ht8 : t < 8 := by omega
  have hx : 0 ≤ Z.getD J 0 ∧ Z.getD J 0 < 256 := by
    rw [List.getD_eq_getElem?_getD, List.getElem?_eq_getElem hJl]; exact h4 _ (List.getElem_mem _)
  obtain ⟨qb, qo, rfl, hc⟩ := h2.at (by omega)
  have cz := hc J hJl
  have hz := zb_val (Z.getD J 0) t hx.1 hx.2
  rw [← hg] at hz
  generalize Z.getD J 0 = x at *
  have n0 : qb < r := h3 _ rfl
  have n1 : qb ≠ r := Nat.ne_of_lt n0
  have m1 : IntKind.i64.wrap ((A : Int) + 1) = (A : Int) + 1 := by rw [IntKind.wrap_i64]; omega
  have m2 : IntKind.i64.wrap (A : Int) = (A : Int) := by rw [IntKind.wrap_i64]; omega
  have m3 : IntKind.i64.wrap ((A : Int).tdiv 8) = (J : Int) := by rw [Int.tdiv_eq_ediv_of_nonneg (by omega), IntKind.wrap_i64]; omega
  have m4 : IntKind.i64.wrap ((A : Int).tmod 8) = (t : Int) := by rw [Int.tmod_eq_emod_of_nonneg (by omega), IntKind.wrap_i64]; omega
  have m3' : IntKind.i64.wrap ((A : Int) / 8) = (J : Int) := by rw [IntKind.wrap_i64]; omega
  have m4' : IntKind.i64.wrap ((A : Int) % 8) = (t : Int) := by rw [IntKind.wrap_i64]; omega
  have m4'' : (A : Int) % 8 = (t : Int) := by omega
  have m4t : (A : Int).tmod 8 = (t : Int) := by rw [Int.tmod_eq_emod_of_nonneg (by omega)]; omega
  have m5 : IntKind.i64.wrap (7 - (t : Int)) = 7 - (t : Int) := by rw [IntKind.wrap_i64]; omega
  have m6 : (J : Int) < (Z.length : Int) := by omega
  have e3 : Op.shift .shr .u8 x .i64 (7 - (t : Int)) = pure (.int .u8 (x / 2 ^ (7 - t))) := by
    rw [shift_shr .u8 .i64 x (7 - (t : Int)) (by omega) (by show 7 - (t : Int) ≤ 8; omega), show (7 - (t : Int)).toNat = 7 - t from by omega]
  have hbt := tb_eq b
  have cc := h1.cell
  have ff := h1.free
  have B1 := Lib.hid (h1.set 1 (.int .i64 ((A : Int) + 1)))
  have K1 := Lib.hid ((Keep.refl (fun k => k = r) w).set (p := ⟨r, 1, none⟩) (.inl rfl) (.int .i64 ((A : Int) + 1)))
  have c1 : (w.setCell ⟨r, 1, none⟩ (.int .i64 ((A : Int) + 1))).cell? ⟨qb, qo + J, none⟩ = some (.int .u8 x) := (K1.out.cell (p := ⟨qb, qo + J, none⟩) (cell_lt cz) n1).trans cz
  have HS := Lib.hid (And.intro h2 (And.intro h4 (And.intro h5 hs)))
  clear h1 h2 h3 h4 hs hd hc cz hJ ht hx hb hg
  go_enter Try.func86, Try.ntmps86
  go_wp2_with fail
  refine PL.out.mono ?_
  rintro e w1 ⟨rfl, rfl⟩
  have hl := hl.out
  generalize ((b :: s).length : Int) = L at *
  go_upto_region 4 with fail
  have hw : ((w.setCell ⟨r, 1, none⟩ (.int .i64 ((A : Int) + 1))).drew) = (w.setCell ⟨r, 1, none⟩ (.int .i64 ((A : Int) + 1))).drew := rfl
  generalize w.setCell ⟨r, 1, none⟩ (.int .i64 ((A : Int) + 1)) = W at *
  clear hw cc ff
  have cc := B1.out.cell
  refine wp_region_held_drew (S := fun w' => w' = W.drew.drew) (by kernel_rfl) rfl (fun hS => ?_)
  refine wpAnyH_take (i := 0) (oi := ⟨_, _, _, _, _, _⟩) (v := ?_) rfl (by kernel_rfl) (by kernel_rfl) (by kernel_rfl) (fun _ _ _ h => h) (Or.inl ⟨by rfl, ?_⟩) hS ?_
  rotate_left
  · intro w0 hs; subst hs; go_simp; try (with_reducible rfl)
  try simp only [Act.put, List.setIfInBounds_toArray, List.set_cons_zero, List.set_cons_succ]
  refine wpAnyH_take (i := 1) (oi := ⟨_, _, _, _, _, _⟩) (v := ?_) rfl (by kernel_rfl) (by kernel_rfl) (by kernel_rfl) (fun _ _ _ h => h) (Or.inl ⟨by rfl, ?_⟩) hS ?_
  rotate_left
  · intro w0 hs; subst hs; go_simp; try (with_reducible rfl)
  try simp only [Act.put, List.setIfInBounds_toArray, List.set_cons_zero, List.set_cons_succ]
  refine wpAnyH_take (i := 2) (oi := ⟨_, _, _, _, _, _⟩) (v := ?_) rfl (by kernel_rfl) (by kernel_rfl) (by kernel_rfl) (fun _ _ _ h => h) (Or.inl ⟨by rfl, ?_⟩) hS ?_
  rotate_left
  · intro w0 hs; subst hs; go_simp; try (with_reducible rfl)
  try simp only [Act.put, List.setIfInBounds_toArray, List.set_cons_zero, List.set_cons_succ]
  refine wpAnyH_take (i := 3) (oi := ⟨_, _, _, _, _, _⟩) (v := ?_) rfl (by kernel_rfl) (by kernel_rfl) (by kernel_rfl) (fun _ _ _ h => h) (Or.inl ⟨by rfl, ?_⟩) hS ?_
  rotate_left
  · intro w0 hs; subst hs; go_simp; try (with_reducible rfl)
  try simp only [Act.put, List.setIfInBounds_toArray, List.set_cons_zero, List.set_cons_succ]
  refine wpAnyH_take (i := 4) (oi := ⟨_, _, _, _, _, _⟩) (v := ?_) rfl (by kernel_rfl) (by kernel_rfl) (by kernel_rfl) (fun _ _ _ h => h) (Or.inl ⟨by rfl, ?_⟩) hS ?_
  rotate_left
  · intro w0 hs; subst hs; go_simp; try (with_reducible rfl)
  try simp only [Act.put, List.setIfInBounds_toArray, List.set_cons_zero, List.set_cons_succ]
  refine wpAnyH_take (i := 5) (oi := ⟨_, _, _, _, _, _⟩) (v := ?_) rfl (by kernel_rfl) (by kernel_rfl) (by kernel_rfl) (fun _ _ _ h => h) (Or.inl ⟨by rfl, ?_⟩) hS ?_
  rotate_left
  · intro w0 hs; subst hs; go_simp; try (with_reducible rfl)
  try simp only [Act.put, List.setIfInBounds_toArray, List.set_cons_zero, List.set_cons_succ]
  refine wpAnyH_take (i := 6) (oi := ⟨_, _, _, _, _, _⟩) (v := ?_) rfl (by kernel_rfl) (by kernel_rfl) (by kernel_rfl) (fun _ _ _ h => h) (Or.inl ⟨by rfl, ?_⟩) hS ?_
  rotate_left
  · intro w0 hs; subst hs; go_simp; try (with_reducible rfl)
  try simp only [Act.put, List.setIfInBounds_toArray, List.set_cons_zero, List.set_cons_succ]
  refine wpAnyH_take (i := 7) (oi := ⟨_, _, _, _, _, _⟩) (v := ?_) rfl (by kernel_rfl) (by kernel_rfl) (by kernel_rfl) (fun _ _ _ h => h) (Or.inl ⟨by rfl, ?_⟩) hS ?_
  rotate_left
  · intro w0 hs; subst hs; go_simp; try (with_reducible rfl)
  try simp only [Act.put, List.setIfInBounds_toArray, List.set_cons_zero, List.set_cons_succ]
  refine wpAnyH_take (i := 8) (oi := ⟨_, _, _, _, _, _⟩) (v := ?_) rfl (by kernel_rfl) (by kernel_rfl) (by kernel_rfl) (fun _ _ _ h => h) (Or.inl ⟨by rfl, ?_⟩) hS ?_
  rotate_left
  · intro w0 hs; subst hs; go_simp; try (with_reducible rfl)
  try simp only [Act.put, List.setIfInBounds_toArray, List.set_cons_zero, List.set_cons_succ]
  refine wpAnyH_take (i := 9) (oi := ⟨_, _, _, _, _, _⟩) (v := ?_) rfl (by kernel_rfl) (by kernel_rfl) (by kernel_rfl) (fun _ _ _ h => h) (Or.inl ⟨by rfl, ?_⟩) hS ?_
  rotate_left
  · intro w0 hs; subst hs; go_simp; try (with_reducible rfl)
  try simp only [Act.put, List.setIfInBounds_toArray, List.set_cons_zero, List.set_cons_succ]
  refine wpAnyH_take (i := 10) (oi := ⟨_, _, _, _, _, _⟩) (v := ?_) rfl (by kernel_rfl) (by kernel_rfl) (by kernel_rfl) (fun _ _ _ h => h) (Or.inl ⟨by rfl, ?_⟩) hS ?_
  rotate_left
  · intro w0 hs; subst hs; go_simp; try (with_reducible rfl)
  try simp only [Act.put, List.setIfInBounds_toArray, List.set_cons_zero, List.set_cons_succ]
  refine wpAnyH_take (i := 11) (oi := ⟨_, _, _, _, _, _⟩) (v := ?_) rfl (by kernel_rfl) (by kernel_rfl) (by kernel_rfl) (fun _ _ _ h => h) (Or.inl ⟨by rfl, ?_⟩) hS ?_
  rotate_left
  · intro w0 hs; subst hs; go_simp; try (with_reducible rfl)
  try simp only [Act.put, List.setIfInBounds_toArray, List.set_cons_zero, List.set_cons_succ]
  refine wpAnyH_take (i := 12) (oi := ⟨_, _, _, _, _, _⟩) (v := ?_) rfl (by kernel_rfl) (by kernel_rfl) (by kernel_rfl) (fun _ _ _ h => h) (Or.inl ⟨by rfl, ?_⟩) hS ?_
  rotate_left
  · intro w0 hs; subst hs; go_simp; try (with_reducible rfl)
  try simp only [Act.put, List.setIfInBounds_toArray, List.set_cons_zero, List.set_cons_succ]
  refine wpAnyH_take (i := 13) (oi := ⟨_, _, _, _, _, _⟩) (v := ?_) rfl (by kernel_rfl) (by kernel_rfl) (by kernel_rfl) (fun _ _ _ h => h) (Or.inl ⟨by rfl, ?_⟩) hS ?_
  rotate_left
  · intro w0 hs; subst hs; go_simp; try (with_reducible rfl)
  try simp only [Act.put, List.setIfInBounds_toArray, List.set_cons_zero, List.set_cons_succ]
  refine wpAnyH_take (i := 14) (oi := ⟨_, _, _, _, _, _⟩) (v := ?_) rfl (by kernel_rfl) (by kernel_rfl) (by kernel_rfl) (fun _ _ _ h => h) (Or.inl ⟨by rfl, ?_⟩) hS ?_
  rotate_left
  · intro w0 hs; subst hs; go_simp; try (with_reducible rfl)
  try simp only [Act.put, List.setIfInBounds_toArray, List.set_cons_zero, List.set_cons_succ]
  refine wpAnyH_take (i := 15) (oi := ⟨_, _, _, _, _, _⟩) (v := ?_) rfl (by kernel_rfl) (by kernel_rfl) (by kernel_rfl) (fun _ _ _ h => h) (Or.inl ⟨by rfl, ?_⟩) hS ?_
  rotate_left
  · intro w0 hs; subst hs; go_simp; try (with_reducible rfl)
  try simp only [Act.put, List.setIfInBounds_toArray, List.set_cons_zero, List.set_cons_succ]
  refine wpAnyH_take (i := 16) (oi := ⟨_, _, _, _, _, _⟩) (v := ?_) rfl (by kernel_rfl) (by kernel_rfl) (by kernel_rfl) (fun _ _ _ h => h) (Or.inl ⟨by rfl, ?_⟩) hS ?_
  rotate_left
  · intro w0 hs; subst hs; go_simp; try (with_reducible rfl)
  try simp only [Act.put, List.setIfInBounds_toArray, List.set_cons_zero, List.set_cons_succ]
  refine wpAnyH_take (i := 17) (oi := ⟨_, _, _, _, _, _⟩) (v := ?_) rfl (by kernel_rfl) (by kernel_rfl) (by kernel_rfl) (fun _ _ _ h => h) (Or.inl ⟨by rfl, ?_⟩) hS ?_
  rotate_left
  · intro w0 hs; subst hs; go_simp; try (with_reducible rfl)
  try simp only [Act.put, List.setIfInBounds_toArray, List.set_cons_zero, List.set_cons_succ]
  refine wpAnyH_take (i := 18) (oi := ⟨_, _, _, _, _, _⟩) (v := ?_) rfl (by kernel_rfl) (by kernel_rfl) (by kernel_rfl) (fun _ _ _ h => h) (Or.inl ⟨by rfl, ?_⟩) hS ?_
  rotate_left
  · intro w0 hs; subst hs; go_simp; try (with_reducible rfl)
  try simp only [Act.put, List.setIfInBounds_toArray, List.set_cons_zero, List.set_cons_succ]
  refine wpAnyH_take (i := 19) (oi := ⟨_, _, _, _, _, _⟩) (v := ?_) rfl (by kernel_rfl) (by kernel_rfl) (by kernel_rfl) (fun _ _ _ h => h) (Or.inl ⟨by rfl, ?_⟩) hS ?_
  rotate_left
  · intro w0 hs; subst hs; go_simp; try (with_reducible rfl)
  try simp only [Act.put, List.setIfInBounds_toArray, List.set_cons_zero, List.set_cons_succ]
  refine wpAnyH_take (i := 20) (oi := ⟨_, _, _, _, _, _⟩) (v := ?_) rfl (by kernel_rfl) (by kernel_rfl) (by kernel_rfl) (fun _ _ _ h => h) (Or.inl ⟨by rfl, ?_⟩) hS ?_
  rotate_left
  · intro w0 hs; subst hs; go_simp; try (with_reducible rfl)
  try simp only [Act.put, List.setIfInBounds_toArray, List.set_cons_zero, List.set_cons_succ]
  refine wpAnyH_take (i := 21) (oi := ⟨_, _, _, _, _, _⟩) (v := ?_) rfl (by kernel_rfl) (by kernel_rfl) (by kernel_rfl) (fun _ _ _ h => h) (Or.inl ⟨by rfl, ?_⟩) hS ?_
  rotate_left
  · intro w0 hs; subst hs; go_simp; try (with_reducible rfl)
  try simp only [Act.put, List.setIfInBounds_toArray, List.set_cons_zero, List.set_cons_succ]
  refine wpAnyH_take (i := 22) (oi := ⟨_, _, _, _, _, _⟩) (v := ?_) rfl (by kernel_rfl) (by kernel_rfl) (by kernel_rfl) (fun _ _ _ h => h) (Or.inl ⟨by rfl, ?_⟩) hS ?_
  rotate_left
  · intro w0 hs; subst hs; go_simp; try (with_reducible rfl)
  try simp only [Act.put, List.setIfInBounds_toArray, List.set_cons_zero, List.set_cons_succ]
  refine wpAnyH_take (i := 23) (oi := ⟨_, _, _, _, _, _⟩) (v := ?_) rfl (by kernel_rfl) (by kernel_rfl) (by kernel_rfl) (fun _ _ _ h => h) (Or.inl ⟨by rfl, ?_⟩) hS ?_
  rotate_left
  · intro w0 hs; subst hs; go_simp; try (with_reducible rfl)
  try simp only [Act.put, List.setIfInBounds_toArray, List.set_cons_zero, List.set_cons_succ]
  refine wpAnyH_done (by kernel_rfl) ?_ _
  clear hS
  go_wp2
  go_ret2
  exact ⟨rfl, ⟨some ⟨qb, qo, none⟩, c, A + 1, Z, B1.out.drew.drew, bytes_keep HS.out.1 K1.out.drew.drew (fun _ a ha e => by cases ha; exact n1 e), fun a ha => (by cases ha; exact n0), HS.out.2.1, HS.out.2.2.1, hA, HS.out.2.2.2⟩, K1.out.drew.drew⟩
set_option maxHeartbeats 1600000 in
theorem wbits (r : Nat) (s : List Bool) (C : Nat) (w : World) (h : RfAt w r s) (hC : C ≤ 64) (hs : C ≤ s.length) :
    Calls Try.prog 58 #[.pointer (some ⟨r, 0, none⟩), .int .i64 (C : Int)] w fun e w' => e = .returned (.tuple #[.int .u64 (valOf (s.take C) : Int), .int .i64 0]) ∧ RfAt w' r (s.drop C) ∧ Keep (fun k => k = r) w w' := by
  have hlen := h.len
  have PL := Lib.hid (wleft r s w h)
  have H := Lib.hid (h.below (Below.refl _ _).drew)
  have hl : decide ((s.length : Int) < (C : Int)) = false := decide_eq_false (by omega)
  have hl2 : decide (s.length < C) = false := decide_eq_false (by omega)
  have hl3 : ¬ s.length < C := by omega
  have d1 : decide ((C : Int) < 0) = false := decide_eq_false (by omega)
  have d2 : decide (64 < (C : Int)) = false := decide_eq_false (by omega)
  have HSL := Lib.hid hs
  clear h
  go_enter Try.func58, Try.ntmps58
  go_wp2_with fail
  refine PL.out.mono ?_
  rintro e w1 ⟨rfl, rfl⟩
  go_wp2
  go_loopg [6, 20] C (fun g n i wx => ∃ (k V : Nat), k ≤ C ∧ n = .int .u64 (V : Int) ∧ i = .int .i64 (k : Int) ∧ g = C - k ∧ Hid (V = valOf (s.take k) ∧ RfAt wx r (s.drop k) ∧ Keep (fun k => k = r) w wx))
  case atStart => exact ⟨0, 0, by omega, rfl, rfl, rfl, by simp [valOf], H.out, (Keep.refl _ _).drew⟩
  case round =>
    obtain ⟨k, V, hk, rfl, rfl, hg, HM⟩ := hrel
    by_cases hlt : k < C
    · have hks : k < s.length := Nat.lt_of_lt_of_le hlt HSL.out
      have hV : V < 9223372036854775808 := by
        have h1 := valOf_lt (s.take k)
        rw [← HM.out.1, List.length_take] at h1
        have h2 : 2 ^ (min k s.length) ≤ 2 ^ 63 := Nat.pow_le_pow_right (by decide) (by omega)
        omega
      have hR := HM.out.2.1
      rw [drop_cons s k hks] at hR
      have hT := Lib.hid (take_snoc s k hks)
      generalize s.getD k false = bk at *
      have hob := or_bit1 V bk hV
      have PX := Lib.hid (wbit r bk _ wr hR)
      have HG := Lib.hid (And.intro hg hks)
      clear hR hg hks
      cases bk with
      | true =>
        go_wp2_with fail
        refine PX.out.mono ?_
        rintro e w1 ⟨rfl, h1, h2⟩
        have H1 := Lib.hid h1
        have H2 := Lib.hid h2
        clear h1 h2
        have hob : bits .or .u64 ((V : Int) * 2) 1 = ((2 * V + 1 : Nat) : Int) := hob
        go_wp2
        go_roundg (C - (k + 1))
        case measure => rw [HG.out.1]; omega
        case rel => exact ⟨k + 1, 2 * V + 1, by omega, by first | rfl | (rw [hob]), rfl, rfl, by rw [hT.out, valOf_snoc, HM.out.1]; rfl, H1.out, HM.out.2.2.trans H2.out⟩
      | false =>
        clear hob
        go_wp2_with fail
        refine PX.out.mono ?_
        rintro e w1 ⟨rfl, h1, h2⟩
        have H1 := Lib.hid h1
        have H2 := Lib.hid h2
        clear h1 h2
        go_wp2
        go_roundg (C - (k + 1))
        case measure => rw [HG.out.1]; omega
        case rel => exact ⟨k + 1, 2 * V, by omega, by go_num, rfl, rfl, by rw [hT.out, valOf_snoc, HM.out.1]; rfl, H1.out, HM.out.2.2.trans H2.out⟩
    · obtain rfl : k = C := by omega
      go_wp2
      go_ret2
      exact ⟨by rw [HM.out.1]; rfl, HM.out.2.1, HM.out.2.2⟩
theorem wbitsE (r : Nat) (s : List Bool) (C : Nat) (w : World) (h : RfAt w r s) (hC : C ≤ 64) (hs : s.length < C) :
    Calls Try.prog 58 #[.pointer (some ⟨r, 0, none⟩), .int .i64 (C : Int)] w fun e w' => e = .returned (.tuple #[.int .u64 0, .int .i64 50]) ∧ Keep (fun k => k = r) w w' := by
  have hlen := h.len
  have PL := Lib.hid (wleft r s w h)
  have hl : decide ((s.length : Int) < (C : Int)) = true := decide_eq_true (by omega)
  have hl2 : decide (s.length < C) = true := decide_eq_true (by omega)
  have d1 : decide ((C : Int) < 0) = false := decide_eq_false (by omega)
  have d2 : decide (64 < (C : Int)) = false := decide_eq_false (by omega)
  clear h
  go_enter Try.func58, Try.ntmps58
  go_wp2_with fail
  refine PL.out.mono ?_
  rintro e w1 ⟨rfl, rfl⟩
  go_wp2
  go_ret2
  exact ⟨rfl, (Keep.refl (fun k => k = r) w).drew⟩
end Go.Proofs.Ytppcccocnmhbgaa
end

section
/- The document's reader: Rice, Open. -/
namespace Go.Proofs.Ytppcccocnmhbgaa
open Go Go.RowKit
set_option maxRecDepth 100000
set_option linter.unusedSimpArgs false
set_option linter.unusedVariables false

set_option maxHeartbeats 3200000 in
theorem wrice (r q C most : Nat) (t : List Bool) (w : World) (h : RfAt w r (List.replicate q true ++ false :: t)) (hqm : q ≤ most) (hm : most < 9223372036854775808) (hC : C ≤ 32) (hCt : C ≤ t.length) (hfit : q * 2 ^ C < 18446744073709551616) :
    Calls Try.prog 56 #[.pointer (some ⟨r, 0, none⟩), .int .i64 (C : Int), .int .u64 (most : Int)] w fun e w' => e = .returned (.tuple #[.int .u64 ((q * 2 ^ C + valOf (t.take C) : Nat) : Int), .int .i64 0]) ∧ RfAt w' r (t.drop C) ∧ Keep (fun k => k = r) w w' := by
  have hVl : valOf (t.take C) < 2 ^ C := by
    have := valOf_lt (t.take C)
    rw [List.length_take, Nat.min_eq_left hCt] at this; exact this
  obtain ⟨V, hV0⟩ : ∃ V, valOf (t.take C) = V := ⟨_, rfl⟩
  have hV := Lib.hid hV0
  rw [hV0] at hVl ⊢
  clear hV0
  have hor := or_rice q C V hfit (by omega) hVl
  have hsh : (q : Int) * 2 ^ C < 18446744073709551616 := by
    have e : (q : Int) * 2 ^ C = ((q * 2 ^ C : Nat) : Int) := by rw [Int.natCast_mul, Int.natCast_pow]; rfl
    rw [e]; omega
  have hsh0 : (0 : Int) ≤ (q : Int) * 2 ^ C := Int.mul_nonneg (by omega) (Int.pow_nonneg (by decide))
  have hmin : min C 64 = C := Nat.min_eq_left (by omega)
  have H := Lib.hid h
  have d1 : decide ((C : Int) < 0) = false := decide_eq_false (by omega)
  have d2 : decide (32 < (C : Int)) = false := decide_eq_false (by omega)
  clear h
  go_enter Try.func56, Try.ntmps56
  go_wp2
  go_loopg [8] q (fun gh v wx => ∃ (k z : Nat), k ≤ q ∧ v = .int .u64 (k : Int) ∧ gh = z ∧ Hid (k + z = q ∧ RfAt wx r (List.replicate z true ++ false :: t) ∧ Keep (fun k => k = r) w wx))
  case atStart => exact ⟨0, q, by omega, rfl, rfl, by omega, H.out, Keep.refl _ _⟩
  case round =>
    obtain ⟨k, z, hkq, rfl, hg, HM⟩ := hrel
    have HGK := Lib.hid hg
    clear hg
    rcases z with _ | j
    · obtain ⟨e1, q1, q2⟩ := HM.out
      obtain rfl : k = q := by omega
      rw [List.replicate_zero, List.nil_append] at q1
      have PP := Lib.hid (wbit r false t wr q1)
      have PV := Lib.hid (fun w' h => wbits r t C w' h (by omega) hCt)
      have HQ := Lib.hid q2
      clear q1 q2 e1 HM
      go_wp2_with fail
      refine PP.out.mono ?_
      rintro e w1 ⟨rfl, h1, h2⟩
      have PB := Lib.hid (PV.out w1 h1)
      have H2 := Lib.hid h2
      clear h1 h2
      rw [hV.out] at PB
      go_wp2_with fail
      refine PB.out.mono ?_
      rintro e w2 ⟨rfl, h3, h4⟩
      have H3 := Lib.hid h3
      have H4 := Lib.hid h4
      clear h3 h4
      go_wp2
      go_ret2
      refine ⟨?_, H3.out, HQ.out.trans (H2.out.trans H4.out)⟩
      rw [show ((k * 2 ^ C + V : Nat) : Int) = (k : Int) * 2 ^ C + V from by simp]; rfl
    · obtain ⟨e1, q1, q2⟩ := HM.out
      rw [List.replicate_succ, List.cons_append] at q1
      have PP := Lib.hid (wbit r true _ wr q1)
      have hkm : decide ((most : Int) < (k : Int) + 1) = false := decide_eq_false (by omega)
      have hkw : IntKind.u64.wrap ((k : Int) + 1) = (k : Int) + 1 := IntWalk.u64_in _ (by omega)
      have HQ := Lib.hid (And.intro q2 e1)
      clear q1 q2 e1 HM
      go_wp2_with fail
      refine PP.out.mono ?_
      rintro e w1 ⟨rfl, h1, h2⟩
      have H1 := Lib.hid h1
      have H2 := Lib.hid h2
      clear h1 h2
      go_wp2
      go_roundg j
      case measure => rw [HGK.out]; omega
      case rel => exact ⟨k + 1, j, by have := HQ.out.2; omega, rfl, rfl, by have := HQ.out.2; omega, H1.out, HQ.out.1.trans H2.out⟩
set_option maxHeartbeats 3200000 in
theorem wriceF (r q C most : Nat) (T : List Bool) (w : World) (h : RfAt w r (List.replicate q true ++ T)) (hqm : q ≤ most) (hm : most < 9223372036854775808) (hC : C ≤ 32)
    (hf : T = [] ∨ (∃ t, T = false :: t ∧ t.length < C) ∨ (∃ t, T = true :: t ∧ q = most)) :
    Calls Try.prog 56 #[.pointer (some ⟨r, 0, none⟩), .int .i64 (C : Int), .int .u64 (most : Int)] w fun e w' => ∃ x : Int, (x = 50 ∨ x = 51) ∧ e = .returned (.tuple #[.int .u64 0, .int .i64 x]) ∧ Keep (fun k => k = r) w w' := by
  have H := Lib.hid h
  have HF := Lib.hid hf
  have d1 : decide ((C : Int) < 0) = false := decide_eq_false (by omega)
  have d2 : decide (32 < (C : Int)) = false := decide_eq_false (by omega)
  clear h hf
  go_enter Try.func56, Try.ntmps56
  go_wp2
  go_loopg [8] q (fun gh v wx => ∃ (k z : Nat), k ≤ q ∧ v = .int .u64 (k : Int) ∧ gh = z ∧ Hid (k + z = q ∧ RfAt wx r (List.replicate z true ++ T) ∧ Keep (fun k => k = r) w wx))
  case atStart => exact ⟨0, q, by omega, rfl, rfl, by omega, H.out, Keep.refl _ _⟩
  case round =>
    obtain ⟨k, z, hkq, rfl, hg, HM⟩ := hrel
    have HGK := Lib.hid hg
    clear hg
    rcases z with _ | j
    · obtain ⟨e1, q1, q2⟩ := HM.out
      obtain rfl : k = q := by omega
      rw [List.replicate_zero, List.nil_append] at q1
      have HQ := Lib.hid q2
      rcases HF.out with hT | ⟨t, hT, hCt⟩ | ⟨t, hT, hqm2⟩
      · rw [hT] at q1
        have PP := Lib.hid (wbit0 r wr q1)
        clear q1 q2 e1 HM hT
        go_wp2_with fail
        refine PP.out.mono ?_
        rintro e w1 ⟨rfl, h2⟩
        have H2 := Lib.hid h2
        clear h2
        go_wp2
        go_ret2
        exact ⟨50, .inl rfl, rfl, HQ.out.trans H2.out⟩
      · rw [hT] at q1
        have PP := Lib.hid (wbit r false t wr q1)
        have PV := Lib.hid (fun w' h => wbitsE r t C w' h (by omega) hCt)
        clear q1 q2 e1 HM hT
        go_wp2_with fail
        refine PP.out.mono ?_
        rintro e w1 ⟨rfl, h1, h2⟩
        have PB := Lib.hid (PV.out w1 h1)
        have H2 := Lib.hid h2
        clear h1 h2
        go_wp2_with fail
        refine PB.out.mono ?_
        rintro e w2 ⟨rfl, h4⟩
        have H4 := Lib.hid h4
        clear h4
        go_wp2
        go_ret2
        exact ⟨50, .inl rfl, rfl, HQ.out.trans (H2.out.trans H4.out)⟩
      · rw [hT] at q1
        have PP := Lib.hid (wbit r true t wr q1)
        have hkm : decide ((most : Int) < (k : Int) + 1) = true := decide_eq_true (by omega)
        have hkw : IntKind.u64.wrap ((k : Int) + 1) = (k : Int) + 1 := IntWalk.u64_in _ (by omega)
        clear q1 q2 e1 HM hT hqm2
        go_wp2_with fail
        refine PP.out.mono ?_
        rintro e w1 ⟨rfl, h1, h2⟩
        have H2 := Lib.hid h2
        clear h1 h2
        go_wp2
        go_ret2
        exact ⟨51, .inr rfl, rfl, HQ.out.trans H2.out⟩
    · obtain ⟨e1, q1, q2⟩ := HM.out
      rw [List.replicate_succ, List.cons_append] at q1
      have PP := Lib.hid (wbit r true _ wr q1)
      have hkm : decide ((most : Int) < (k : Int) + 1) = false := decide_eq_false (by omega)
      have hkw : IntKind.u64.wrap ((k : Int) + 1) = (k : Int) + 1 := IntWalk.u64_in _ (by omega)
      have HQ := Lib.hid (And.intro q2 e1)
      clear q1 q2 e1 HM
      go_wp2_with fail
      refine PP.out.mono ?_
      rintro e w1 ⟨rfl, h1, h2⟩
      have H1 := Lib.hid h1
      have H2 := Lib.hid h2
      clear h1 h2
      go_wp2
      go_roundg j
      case measure => rw [HGK.out]; omega
      case rel => exact ⟨k + 1, j, by have := HQ.out.2; omega, rfl, rfl, by have := HQ.out.2; omega, H1.out, HQ.out.1.trans H2.out⟩
theorem Row.fresh' (w : World) (e : TypeId) : Row (w.alloc (.cells #[] e)) e (.slice (some ⟨w.heap.size, 0, none⟩) 0 0) [] (some w.heap.size) :=
  .inr ⟨w.heap.size, 0, #[], rfl, rfl, Blk.new _ _ _, Nat.le_refl _, Nat.le_refl _, Nat.zero_le _, rfl⟩
set_option maxHeartbeats 1600000 in
theorem wopen (q : Option Addr) (c : Nat) (xs : List Int) (w : World) (h : Lib.BytesIn w q xs.length xs) (hr : ∀ x ∈ xs, 0 ≤ x ∧ x < 256) (hl : xs.length ≤ 140737488355328) :
    Calls Try.prog 55 #[.slice q xs.length c] w fun e w' => ∃ r, e = .returned (.pointer (some ⟨r, 0, none⟩)) ∧ RfAt w' r (unpack xs) ∧ w.heap.size ≤ r ∧ Below w.heap.size w w' := by
  obtain ⟨i0, hi, hz0, hz1, hz2⟩ := info_parts u8info
  have K0 : Keep (fun _ => False) w (w.alloc (.cells #[] 5)) := (Keep.refl _ w).alloc _
  obtain ⟨v1, w1, o1, run1, R1, ho1, k1⟩ := row_appendL (P := Try.prog) 26 26 i0 (.int .u8 0) Try.underlying26 hi hz0 hz1 hz2 rfl (Row.fresh' w 5) (c := c) (bytes_keep h K0 (fun _ _ _ h => h)) (by simpa using hl)
  rw [List.nil_append] at R1
  obtain ⟨p1, c1, rfl, b1, _, _, hq1⟩ := R1.form
  obtain ⟨g1, B1⟩ := own_step (w0 := w) (G := w.heap.size) rfl (K0.below (Nat.le_refl _) (fun _ h => h.elim)) (fun g hg => by cases hg; exact Nat.le_refl _) ho1 k1
  have hne : ∀ a, p1 = some a → a.block < w1.heap.size := fun a ha => by
    rcases hq1 with ⟨rfl, _⟩ | ⟨g, _, rfl, hg⟩
    · cases ha
    · cases ha; exact hg
  have HH := Lib.hid (And.intro b1 (And.intro hne B1))
  have HR := Lib.hid hr
  clear R1 ho1 k1 K0 b1 hq1 g1 B1 hne h hr hi hz0 hz1 hz2
  go_enter Try.func55, Try.ntmps55
  go_wp2_with (at_builtin; refine wpl_append rfl _ _ 26 rfl rfl rfl run1 ?_)
  go_ret
  refine ⟨_, rfl, ⟨p1, c1, 0, xs, Blk.new _ _ _, bytes_keep HH.out.1 ((Keep.refl (fun _ => False) w1).alloc _) (fun _ _ _ h => h), HH.out.2.1, HR.out, hl, Nat.zero_le _, rfl⟩, HH.out.2.2.size, HH.out.2.2.alloc HH.out.2.2.size _⟩
end Go.Proofs.Ytppcccocnmhbgaa
end

section
/- Counts' bytes, the document's: Low, Encode. -/
namespace Go.Proofs.Ytppcccocnmhbgaa
open Go Go.RowKit
set_option linter.unusedSimpArgs false
set_option linter.unusedVariables false
set_option maxRecDepth 100000

/-- ONE byte behind a row, laid in a block of its own first -/
theorem row_snoc {P : Program} {w : World} {e : TypeId} {v : Value} {xs : List Int} {o : Option Nat} (t ty : TypeId) (i : TypeInfo) (z : Value) (ht : P.underlying t = some (.slice e)) (hi : P.info? e = some i) (hz : i.zero = some z) (hs : i.size = 1) (hby : i.bytes = 1) (hzs : z.cells.size = 1)
    (h : Row w e v xs o) (u : Int) (hb : xs.length + 1 ≤ 140737488355328) :
    ∃ p' c' w' o', (Builtin.append_ #[t, t] ty #[v, .slice (some ⟨w.heap.size, 0, none⟩) 1 1]).run P (w.alloc (.cells #[.int .u8 u] e)) = .ok (.slice p' (xs.length + 1) c') w' ∧ Row w' e (.slice p' (xs.length + 1) c') (xs ++ [u]) o' ∧ (o' = o ∨ ∃ g', o' = some g' ∧ w.heap.size ≤ g') ∧ Keep (fun k => o = some k) w w' := by
  have h' := h.keep (X := fun _ => False) ((Keep.refl _ w).alloc (.cells #[.int .u8 u] e)) (fun _ _ h => h)
  obtain ⟨v', w', o', r1, r2, r3, r4⟩ := row_appendL (P := P) t ty i z ht hi hz hs hby hzs h' (p := some ⟨w.heap.size, 0, none⟩) (c := 1) (ys := [u]) (Lib.BytesIn.of_cells fun j hj => by
    match j, hj with
    | 0, _ => rw [Addr.add_lit, (Blk.new w #[.int .u8 u] e).cell]; rfl
    | j + 1, hj => simp at hj) (by simpa using hb)
  obtain ⟨p, cap', rfl, _⟩ := r2.form
  rw [show (xs ++ [u]).length = xs.length + 1 from by simp] at r1 r2
  exact ⟨p, cap', w', o', r1, r2, r3.imp id (fun ⟨g', h1, h2⟩ => ⟨g', h1, by simp at h2; omega⟩), ((Keep.refl _ w).alloc _).trans r4⟩
/-- a number in so many bytes, the lowest first -/
def leB (n k : Nat) : List Int := (List.range k).map fun i => ((n / 2 ^ (8 * i) % 256 : Nat) : Int)
theorem leB_length (n k : Nat) : (leB n k).length = k := by simp [leB]
theorem leB_succ (n k : Nat) : leB n k ++ [((n / 2 ^ (8 * k) % 256 : Nat) : Int)] = leB n (k + 1) := by
  unfold leB; rw [List.range_succ, List.map_append]; rfl
def encS (n : Nat) : List Int := if n < 253 then [(n : Int)] else if n ≤ 65535 then 253 :: leB n 2 else if n ≤ 4294967295 then 254 :: leB n 4 else 255 :: leB n 8
theorem u8inf : (Try.prog.info? 5).map (fun i => (i.zero, i.size, i.bytes)) = some (some (.int .u8 0), 1, 1) := by kernel_rfl
set_option maxHeartbeats 1600000 in
theorem rlow (n k : Nat) (hn : n < 18446744073709551616) (hk : k ≤ 8) (w : World) : Calls Try.prog 76 #[.int .u64 (n : Int), .int .i64 (k : Int)] w fun e w' => ∃ p c o, e = .returned (.slice p k c) ∧ Row w' 5 (.slice p k c) (leB n k) o ∧ (∀ g, o = some g → w.heap.size ≤ g) ∧ Below w.heap.size w w' := by
  obtain ⟨i0, hi, hz0, hz1, hz2⟩ := info_parts u8inf
  have HI := Lib.hid (And.intro hi (And.intro hz0 (And.intro hz1 hz2)))
  clear hi hz0 hz1 hz2
  go_enter Try.func76, Try.ntmps76
  go_wp2
  generalize hgw : w.heap.size = G at *
  go_loopg [5, 8] k (fun gh v i wx => ∃ (j : Nat) (p : Option Addr) (c : Nat) (o : Option Nat), j ≤ k ∧ v = .slice p j c ∧ i = .int .i64 (j : Int) ∧ gh = k - j ∧ Hid (Row wx 5 (.slice p j c) (leB n j) o ∧ (∀ g, o = some g → G ≤ g) ∧ Below G w wx))
  case atStart => exact ⟨0, none, 0, none, Nat.zero_le _, rfl, rfl, rfl, Row.nil _ _, fun g hg => (by cases hg), by rw [← hgw]; exact Below.refl _ _⟩
  case round =>
    obtain ⟨j, p, c, o, hj, rfl, rfl, hg, HR⟩ := hrel
    have HGK := Lib.hid hg
    clear hg
    by_cases hlt : j < k
    · have a2 : IntKind.i64.wrap (8 * (j : Int)) = 8 * (j : Int) := by rw [IntKind.wrap_i64]; omega
      obtain ⟨p3, c3, w3, o3, run3, R3, ho3, k3⟩ := row_snoc (P := Try.prog) 26 26 i0 (.int .u8 0) Try.underlying26 HI.out.1 HI.out.2.1 HI.out.2.2.1 HI.out.2.2.2 rfl (v := .slice p j c) (xs := leB n j) HR.out.1 ((n : Int) / 2 ^ (8 * j) % 256) (by rw [leB_length]; omega)
      rw [leB_length] at run3 R3
      rw [show ((n : Int) / 2 ^ (8 * j) % 256) = ((n / 2 ^ (8 * j) % 256 : Nat) : Int) from by simp, leB_succ] at R3
      have H3 := Lib.hid (And.intro R3 (own_step hgw HR.out.2.2 HR.out.2.1 ho3 k3))
      clear R3 ho3 k3
      go_wp2_with (at_builtin; refine wpl_append rfl _ _ 26 rfl rfl rfl run3 ?_)
      go_roundg (k - (j + 1))
      case measure => rw [HGK.out]; omega
      case rel => exact ⟨j + 1, p3, c3, o3, hlt, rfl, rfl, rfl, H3.out⟩
    · obtain rfl : j = k := by omega
      subst hgw
      go_wp2
      go_ret
      exact ⟨p, c, o, rfl, HR.out⟩
theorem encS_1 {n : Nat} (h : n < 253) : encS n = [(n : Int)] := if_pos h
theorem encS_3 {n : Nat} (h : ¬ n < 253) (h2 : n ≤ 65535) : encS n = 253 :: leB n 2 := by unfold encS; rw [if_neg h, if_pos h2]
theorem encS_5 {n : Nat} (h : ¬ n < 253) (h2 : ¬ n ≤ 65535) (h3 : n ≤ 4294967295) : encS n = 254 :: leB n 4 := by unfold encS; rw [if_neg h, if_neg h2, if_pos h3]
theorem encS_9 {n : Nat} (h : ¬ n < 253) (h2 : ¬ n ≤ 65535) (h3 : ¬ n ≤ 4294967295) : encS n = 255 :: leB n 8 := by unfold encS; rw [if_neg h, if_neg h2, if_neg h3]
theorem renc1 (n : Nat) (hn : n < 253) (w : World) : Calls Try.prog 41 #[.int .u64 (n : Int)] w fun e w' => ∃ p c o, e = .returned (.slice p 1 c) ∧ Row w' 5 (.slice p 1 c) [(n : Int)] o ∧ (∀ g, o = some g → w.heap.size ≤ g) ∧ Below w.heap.size w w' := by
  have h1 : (n : Int) < 253 := by omega
  have R0 : Row (w.alloc (.cells #[.int .u8 (n : Int)] 5)) 5 (.slice (some ⟨w.heap.size, 0, none⟩) 1 1) [(n : Int)] (some w.heap.size) :=
    .inr ⟨w.heap.size, 1, #[.int .u8 (n : Int)], rfl, rfl, Blk.new _ _ _, Nat.le_refl _, Nat.le_refl _, (by decide), rfl⟩
  have HR := Lib.hid R0
  clear R0
  go_enter Try.func41, Try.ntmps41
  go_wp2
  go_ret
  exact ⟨_, _, some w.heap.size, rfl, HR.out, fun g hg => (by cases hg; exact Nat.le_refl _), (Below.refl _ _).alloc (Nat.le_refl _) _⟩
set_option maxHeartbeats 1600000 in
theorem renc3 (n : Nat) (hn : n < 18446744073709551616) (h1 : ¬ n < 253) (h2 : n ≤ 65535) (w : World) : Calls Try.prog 41 #[.int .u64 (n : Int)] w fun e w' => ∃ p c o, e = .returned (.slice p (2 + 1) c) ∧ Row w' 5 (.slice p (2 + 1) c) (253 :: leB n 2) o ∧ (∀ g, o = some g → w.heap.size ≤ g) ∧ Below w.heap.size w w' := by
  obtain ⟨i0, hi, hz0, hz1, hz2⟩ := info_parts u8inf
  have PL := Lib.hid (rlow n 2 hn (by decide) (w.alloc (.cells #[.int .u8 253] 5)))
  have R0 : Row (w.alloc (.cells #[.int .u8 253] 5)) 5 (.slice (some ⟨w.heap.size, 0, none⟩) 1 1) [253] (some w.heap.size) :=
    .inr ⟨w.heap.size, 1, #[.int .u8 253], rfl, rfl, Blk.new _ _ _, Nat.le_refl _, Nat.le_refl _, (by decide), rfl⟩
  have HR := Lib.hid R0
  have d1 : decide ((n : Int) < 253) = false := decide_eq_false (by omega); have d2 : decide ((n : Int) ≤ 65535) = true := decide_eq_true (by omega)
  clear R0 hn h1 h2
  go_enter Try.func41, Try.ntmps41
  go_wp2_with fail
  refine PL.out.mono ?_
  rintro e w1 ⟨p1, c1, o1, rfl, R1, ho1, hb1⟩
  have R2 := HR.out.keep (Keep.of_below (X := fun _ => False) hb1) (fun _ _ h => h)
  obtain ⟨_, _, e1, hy, _⟩ := R1.form
  cases e1
  rw [leB_length] at hy
  obtain ⟨v2, w2, o2, run2, R3, ho2, k2⟩ := row_appendL (P := Try.prog) 26 26 i0 (.int .u8 0) Try.underlying26 hi hz0 hz1 hz2 rfl R2 (p := p1) (c := c1) (ys := leB n 2) (by rw [leB_length]; exact hy) (by rw [leB_length]; decide)
  have hbw : Below w.heap.size w w1 := ((Below.refl w.heap.size w).alloc (Nat.le_refl _) _).trans (hb1.mono (by simp))
  have H2 := Lib.hid (own_step rfl hbw (fun g hg => by cases hg; exact Nat.le_refl _) ho2 k2)
  rw [leB_length] at run2
  obtain ⟨p2, c2, rfl, _⟩ := R3.form
  have HR3 := Lib.hid R3
  clear R1 R2 R3 ho1 hb1 hbw hy ho2 k2
  go_wp2_with (at_builtin; refine wpl_append rfl _ _ 26 rfl rfl rfl run2 ?_)
  go_ret
  have hl : ([253] ++ leB n 2).length = 2 + 1 := by rw [List.length_append, leB_length]; rfl
  have R4 := HR3.out
  rw [hl] at R4
  exact ⟨p2, c2, o2, congrArg (fun m => Ending.returned (.slice p2 m c2)) hl, R4, H2.out⟩
set_option maxHeartbeats 1600000 in
theorem renc5 (n : Nat) (hn : n < 18446744073709551616) (h1 : ¬ n ≤ 65535) (h2 : n ≤ 4294967295) (w : World) : Calls Try.prog 41 #[.int .u64 (n : Int)] w fun e w' => ∃ p c o, e = .returned (.slice p (4 + 1) c) ∧ Row w' 5 (.slice p (4 + 1) c) (254 :: leB n 4) o ∧ (∀ g, o = some g → w.heap.size ≤ g) ∧ Below w.heap.size w w' := by
  obtain ⟨i0, hi, hz0, hz1, hz2⟩ := info_parts u8inf
  have PL := Lib.hid (rlow n 4 hn (by decide) (w.alloc (.cells #[.int .u8 254] 5)))
  have R0 : Row (w.alloc (.cells #[.int .u8 254] 5)) 5 (.slice (some ⟨w.heap.size, 0, none⟩) 1 1) [254] (some w.heap.size) :=
    .inr ⟨w.heap.size, 1, #[.int .u8 254], rfl, rfl, Blk.new _ _ _, Nat.le_refl _, Nat.le_refl _, (by decide), rfl⟩
  have HR := Lib.hid R0
  have d1 : decide ((n : Int) < 253) = false := decide_eq_false (by omega); have d2 : decide ((n : Int) ≤ 65535) = false := decide_eq_false (by omega); have d3 : decide ((n : Int) ≤ 4294967295) = true := decide_eq_true (by omega)
  clear R0 hn h1 h2
  go_enter Try.func41, Try.ntmps41
  go_wp2_with fail
  refine PL.out.mono ?_
  rintro e w1 ⟨p1, c1, o1, rfl, R1, ho1, hb1⟩
  have R2 := HR.out.keep (Keep.of_below (X := fun _ => False) hb1) (fun _ _ h => h)
  obtain ⟨_, _, e1, hy, _⟩ := R1.form
  cases e1
  rw [leB_length] at hy
  obtain ⟨v2, w2, o2, run2, R3, ho2, k2⟩ := row_appendL (P := Try.prog) 26 26 i0 (.int .u8 0) Try.underlying26 hi hz0 hz1 hz2 rfl R2 (p := p1) (c := c1) (ys := leB n 4) (by rw [leB_length]; exact hy) (by rw [leB_length]; decide)
  have hbw : Below w.heap.size w w1 := ((Below.refl w.heap.size w).alloc (Nat.le_refl _) _).trans (hb1.mono (by simp))
  have H2 := Lib.hid (own_step rfl hbw (fun g hg => by cases hg; exact Nat.le_refl _) ho2 k2)
  rw [leB_length] at run2
  obtain ⟨p2, c2, rfl, _⟩ := R3.form
  have HR3 := Lib.hid R3
  clear R1 R2 R3 ho1 hb1 hbw hy ho2 k2
  go_wp2_with (at_builtin; refine wpl_append rfl _ _ 26 rfl rfl rfl run2 ?_)
  go_ret
  have hl : ([254] ++ leB n 4).length = 4 + 1 := by rw [List.length_append, leB_length]; rfl
  have R4 := HR3.out
  rw [hl] at R4
  exact ⟨p2, c2, o2, congrArg (fun m => Ending.returned (.slice p2 m c2)) hl, R4, H2.out⟩
set_option maxHeartbeats 1600000 in
theorem renc9 (n : Nat) (hn : n < 18446744073709551616) (h2 : ¬ n ≤ 4294967295) (w : World) : Calls Try.prog 41 #[.int .u64 (n : Int)] w fun e w' => ∃ p c o, e = .returned (.slice p (8 + 1) c) ∧ Row w' 5 (.slice p (8 + 1) c) (255 :: leB n 8) o ∧ (∀ g, o = some g → w.heap.size ≤ g) ∧ Below w.heap.size w w' := by
  obtain ⟨i0, hi, hz0, hz1, hz2⟩ := info_parts u8inf
  have PL := Lib.hid (rlow n 8 hn (by decide) (w.alloc (.cells #[.int .u8 255] 5)))
  have R0 : Row (w.alloc (.cells #[.int .u8 255] 5)) 5 (.slice (some ⟨w.heap.size, 0, none⟩) 1 1) [255] (some w.heap.size) :=
    .inr ⟨w.heap.size, 1, #[.int .u8 255], rfl, rfl, Blk.new _ _ _, Nat.le_refl _, Nat.le_refl _, (by decide), rfl⟩
  have HR := Lib.hid R0
  have d1 : decide ((n : Int) < 253) = false := decide_eq_false (by omega); have d2 : decide ((n : Int) ≤ 65535) = false := decide_eq_false (by omega); have d3 : decide ((n : Int) ≤ 4294967295) = false := decide_eq_false (by omega)
  clear R0 hn h2
  go_enter Try.func41, Try.ntmps41
  go_wp2_with fail
  refine PL.out.mono ?_
  rintro e w1 ⟨p1, c1, o1, rfl, R1, ho1, hb1⟩
  have R2 := HR.out.keep (Keep.of_below (X := fun _ => False) hb1) (fun _ _ h => h)
  obtain ⟨_, _, e1, hy, _⟩ := R1.form
  cases e1
  rw [leB_length] at hy
  obtain ⟨v2, w2, o2, run2, R3, ho2, k2⟩ := row_appendL (P := Try.prog) 26 26 i0 (.int .u8 0) Try.underlying26 hi hz0 hz1 hz2 rfl R2 (p := p1) (c := c1) (ys := leB n 8) (by rw [leB_length]; exact hy) (by rw [leB_length]; decide)
  have hbw : Below w.heap.size w w1 := ((Below.refl w.heap.size w).alloc (Nat.le_refl _) _).trans (hb1.mono (by simp))
  have H2 := Lib.hid (own_step rfl hbw (fun g hg => by cases hg; exact Nat.le_refl _) ho2 k2)
  rw [leB_length] at run2
  obtain ⟨p2, c2, rfl, _⟩ := R3.form
  have HR3 := Lib.hid R3
  clear R1 R2 R3 ho1 hb1 hbw hy ho2 k2
  go_wp2_with (at_builtin; refine wpl_append rfl _ _ 26 rfl rfl rfl run2 ?_)
  go_ret
  have hl : ([255] ++ leB n 8).length = 8 + 1 := by rw [List.length_append, leB_length]; rfl
  have R4 := HR3.out
  rw [hl] at R4
  exact ⟨p2, c2, o2, congrArg (fun m => Ending.returned (.slice p2 m c2)) hl, R4, H2.out⟩
/-- Encode -/
theorem renc (n : Nat) (hn : n < 18446744073709551616) (w : World) : Calls Try.prog 41 #[.int .u64 (n : Int)] w fun e w' => ∃ p c o, e = .returned (.slice p (encS n).length c) ∧ Row w' 5 (.slice p (encS n).length c) (encS n) o ∧ (∀ g, o = some g → w.heap.size ≤ g) ∧ Below w.heap.size w w' := by
  by_cases h1 : n < 253
  · rw [encS_1 h1]; exact renc1 n h1 w
  · by_cases h2 : n ≤ 65535
    · rw [encS_3 h1 h2, List.length_cons, leB_length]; exact renc3 n hn h1 h2 w
    · by_cases h3 : n ≤ 4294967295
      · rw [encS_5 h1 h2 h3, List.length_cons, leB_length]; exact renc5 n hn h2 h3 w
      · rw [encS_9 h1 h2 h3, List.length_cons, leB_length]; exact renc9 n hn h3 w
end Go.Proofs.Ytppcccocnmhbgaa
end
