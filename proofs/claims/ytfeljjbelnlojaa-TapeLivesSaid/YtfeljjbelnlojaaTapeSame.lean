/- The law TapeLives: same. -/
import Derived.Test.YtfeljjbelnlojaaTapeTwo
namespace Go.Proofs.Ytfeljjbelnlojaa
open Go Go.RowKit
set_option linter.unusedSimpArgs false
set_option maxHeartbeats 1600000 in
theorem same_at (p r : Nat) (xs : List Int) (sy ro fu ro' fu' : Int) (o o' : Option Nat) (v : World) (h1 : TapeAt v p xs sy ro fu o) (h2 : RefAt v r xs sy ro' fu' o') (hl : xs.length ≤ 16777216) :
    Calls Try.prog 24 #[.pointer (some ⟨p, 0, none⟩), .pointer (some ⟨r, 0, none⟩)] v fun e w' => e = .returned (.bool true) ∧ Below v.heap.size v w' := by
  obtain ⟨u, h3, h4, h5⟩ := h2
  have h1 := h1.keep (X := fun _ => False) (Keep.refl _ v).drew (fun _ _ h => h)
  obtain ⟨q2, c2, rfl, hb2, hle2, hm2, hq2⟩ := h4.form
  have PB := Lib.hid (tbytes p xs sy ro fu o v.drew h1 (by omega))
  have HT := Lib.hid h1
  have HIN := Lib.hid (bytes_keep (X := fun _ => False) hb2 (Keep.refl _ v).drew (fun _ _ _ h => h))
  have C0 : v.drew.cell? ⟨r, 0, none⟩ = some (.slice q2 xs.length c2) := h3.drew.cell 0
  have C1 : v.drew.cell? ⟨r, 1, none⟩ = some (.int .i64 sy) := h3.drew.cell 1
  have lr : r < v.drew.heap.size := h3.drew.lt
  clear h1 h3 h4 h5 hb2 hq2
  go_enter Try.func24, Try.ntmps24
  go_upto_region 1 with fail
  refine wp_region_held_drew (S := fun w' => w'.cell? ⟨r, 0, none⟩ = some (.slice q2 xs.length c2) ∧ w'.cell? ⟨r, 1, none⟩ = some (.int .i64 sy)) (by kernel_rfl) ⟨C0, C1⟩ (fun hS => ?_)
  refine wpAnyH_take (i := 0) (oi := ⟨_, _, _, _, _, _⟩) (v := ?_) rfl (by kernel_rfl) (by kernel_rfl) (by kernel_rfl) (fun _ _ _ h => h) (Or.inl ⟨by rfl, ?_⟩) hS ?_
  rotate_left
  · intro w0 hs; obtain ⟨s1, s2⟩ := hs; go_simp; try (with_reducible rfl)
  try simp only [Act.put, List.setIfInBounds_toArray, List.set_cons_zero, List.set_cons_succ]
  refine wpAnyH_take (i := 2) (oi := ⟨_, _, _, _, _, _⟩) (v := ?_) rfl (by kernel_rfl) (by kernel_rfl) (by kernel_rfl) (fun _ _ _ h => h) (Or.inl ⟨by rfl, ?_⟩) hS ?_
  rotate_left
  · intro w0 hs; obtain ⟨s1, s2⟩ := hs; go_simp; try (with_reducible rfl)
  try simp only [Act.put, List.setIfInBounds_toArray, List.set_cons_zero, List.set_cons_succ]
  refine wpAnyH_take (i := 3) (oi := ⟨_, _, _, _, _, _⟩) (v := ?_) rfl (by kernel_rfl) (by kernel_rfl) (by kernel_rfl) (fun _ _ _ h => h) (Or.inl ⟨by rfl, ?_⟩) hS ?_
  rotate_left
  · intro w0 hs; obtain ⟨s1, s2⟩ := hs; go_simp; try (with_reducible rfl)
  try simp only [Act.put, List.setIfInBounds_toArray, List.set_cons_zero, List.set_cons_succ]
  refine wpAnyH_take (i := 4) (oi := ⟨_, _, _, _, _, _⟩) (v := ?_) rfl (by kernel_rfl) (by kernel_rfl) (by kernel_rfl) (fun _ _ _ h => h) (Or.inl ⟨by rfl, ?_⟩) hS ?_
  rotate_left
  · intro w0 hs; obtain ⟨s1, s2⟩ := hs; go_simp; try (with_reducible rfl)
  try simp only [Act.put, List.setIfInBounds_toArray, List.set_cons_zero, List.set_cons_succ]
  refine wpAnyH_take (i := 5) (oi := ⟨_, _, _, _, _, _⟩) (v := ?_) rfl (by kernel_rfl) (by kernel_rfl) (by kernel_rfl) (fun _ _ _ h => h) (Or.inl ⟨by rfl, ?_⟩) hS ?_
  rotate_left
  · intro w0 hs; obtain ⟨s1, s2⟩ := hs; go_simp; try (with_reducible rfl)
  try simp only [Act.put, List.setIfInBounds_toArray, List.set_cons_zero, List.set_cons_succ]
  refine wpAnyH_ready (rs := [1]) (by kernel_rfl) (by simp) ?_
  refine AllReadyH.cons (o := ⟨_, _, _, _, _, _⟩) rfl (fun K hK => ?_) AllReadyH.nil
  rw [if_pos (by rfl)]
  go_step
  refine PB.out.mono ?_
  rintro e w5 ⟨q5, c5, o5, rfl, r5, ho5, hb5⟩
  have PE := Lib.hid (eq_rows (c2 := c2) r5 (bytes_keep (X := fun _ => False) HIN.out (Keep.of_below hb5) (fun _ _ _ h => h)))
  have PS := Lib.hid (tsynced p xs sy ro fu o w5 (HT.out.keep (X := fun _ => False) (Keep.of_below hb5) (fun _ _ h => h)))
  have SB := Lib.hid (show w5.cell? ⟨r, 0, none⟩ = some (.slice q2 xs.length c2) ∧ w5.cell? ⟨r, 1, none⟩ = some (.int .i64 sy) from ⟨(hb5.cell (p := ⟨r, 0, none⟩) lr).trans C0, (hb5.cell (p := ⟨r, 1, none⟩) lr).trans C1⟩)
  have HB5 := Lib.hid hb5
  clear r5 ho5 hb5
  simp only []
  refine hK.out _ _ (by first | exact hS | exact SB.out) (fun hS' => ?_)
  clear hS hK
  have hS := hS'; clear hS'
  try simp only [Act.put, List.setIfInBounds_toArray, List.set_cons_zero, List.set_cons_succ]
  refine wpAnyH_ready (rs := [6]) (by kernel_rfl) (by simp) ?_
  refine AllReadyH.cons (o := ⟨_, _, _, _, _, _⟩) rfl (fun K hK => ?_) AllReadyH.nil
  rw [if_pos (by rfl)]
  go_step
  refine PE.out.mono ?_
  rintro e w6 ⟨rfl, rfl⟩
  simp only []
  refine hK.out _ _ (by first | exact hS | exact SB.out) (fun hS' => ?_)
  clear hS hK
  have hS := hS'; clear hS'
  try simp only [Act.put, List.setIfInBounds_toArray, List.set_cons_zero, List.set_cons_succ]
  refine wpAnyH_take (i := 7) (oi := ⟨_, _, _, _, _, _⟩) (v := ?_) rfl (by kernel_rfl) (by kernel_rfl) (by kernel_rfl) (fun _ _ _ h => h) (Or.inl ⟨by rfl, ?_⟩) hS ?_
  rotate_left
  · intro w0 hs; obtain ⟨s1, s2⟩ := hs; go_simp; try (with_reducible rfl)
  try simp only [Act.put, List.setIfInBounds_toArray, List.set_cons_zero, List.set_cons_succ]
  refine wpAnyH_take (i := 8) (oi := ⟨_, _, _, _, _, _⟩) (v := ?_) rfl (by kernel_rfl) (by kernel_rfl) (by kernel_rfl) (fun _ _ _ h => h) (Or.inl ⟨by rfl, ?_⟩) hS ?_
  rotate_left
  · intro w0 hs; obtain ⟨s1, s2⟩ := hs; go_simp; try (with_reducible rfl)
  try simp only [Act.put, List.setIfInBounds_toArray, List.set_cons_zero, List.set_cons_succ]
  refine wpAnyH_take (i := 10) (oi := ⟨_, _, _, _, _, _⟩) (v := ?_) rfl (by kernel_rfl) (by kernel_rfl) (by kernel_rfl) (fun _ _ _ h => h) (Or.inl ⟨by rfl, ?_⟩) hS ?_
  rotate_left
  · intro w0 hs; obtain ⟨s1, s2⟩ := hs; go_simp; try (with_reducible rfl)
  try simp only [Act.put, List.setIfInBounds_toArray, List.set_cons_zero, List.set_cons_succ]
  refine wpAnyH_take (i := 11) (oi := ⟨_, _, _, _, _, _⟩) (v := ?_) rfl (by kernel_rfl) (by kernel_rfl) (by kernel_rfl) (fun _ _ _ h => h) (Or.inl ⟨by rfl, ?_⟩) hS ?_
  rotate_left
  · intro w0 hs; obtain ⟨s1, s2⟩ := hs; go_simp; try (with_reducible rfl)
  try simp only [Act.put, List.setIfInBounds_toArray, List.set_cons_zero, List.set_cons_succ]
  refine wpAnyH_take (i := 12) (oi := ⟨_, _, _, _, _, _⟩) (v := ?_) rfl (by kernel_rfl) (by kernel_rfl) (by kernel_rfl) (fun _ _ _ h => h) (Or.inl ⟨by rfl, ?_⟩) hS ?_
  rotate_left
  · intro w0 hs; obtain ⟨s1, s2⟩ := hs; go_simp; try (with_reducible rfl)
  try simp only [Act.put, List.setIfInBounds_toArray, List.set_cons_zero, List.set_cons_succ]
  refine wpAnyH_take (i := 13) (oi := ⟨_, _, _, _, _, _⟩) (v := ?_) rfl (by kernel_rfl) (by kernel_rfl) (by kernel_rfl) (fun _ _ _ h => h) (Or.inl ⟨by rfl, ?_⟩) hS ?_
  rotate_left
  · intro w0 hs; obtain ⟨s1, s2⟩ := hs; go_simp; try (with_reducible rfl)
  try simp only [Act.put, List.setIfInBounds_toArray, List.set_cons_zero, List.set_cons_succ]
  refine wpAnyH_ready (rs := [9]) (by kernel_rfl) (by simp) ?_
  refine AllReadyH.cons (o := ⟨_, _, _, _, _, _⟩) rfl (fun K hK => ?_) AllReadyH.nil
  rw [if_pos (by rfl)]
  go_step
  refine PS.out.mono ?_
  rintro e w6 ⟨rfl, rfl⟩
  simp only []
  refine hK.out _ _ (by first | exact hS | exact SB.out) (fun hS' => ?_)
  clear hS hK
  have hS := hS'; clear hS'
  try simp only [Act.put, List.setIfInBounds_toArray, List.set_cons_zero, List.set_cons_succ]
  refine wpAnyH_take (i := 14) (oi := ⟨_, _, _, _, _, _⟩) (v := ?_) rfl (by kernel_rfl) (by kernel_rfl) (by kernel_rfl) (fun _ _ _ h => h) (Or.inl ⟨by rfl, ?_⟩) hS ?_
  rotate_left
  · intro w0 hs; obtain ⟨s1, s2⟩ := hs; go_simp; try (with_reducible rfl)
  try simp only [Act.put, List.setIfInBounds_toArray, List.set_cons_zero, List.set_cons_succ]
  refine wpAnyH_take (i := 15) (oi := ⟨_, _, _, _, _, _⟩) (v := ?_) rfl (by kernel_rfl) (by kernel_rfl) (by kernel_rfl) (fun _ _ _ h => h) (Or.inl ⟨by rfl, ?_⟩) hS ?_
  rotate_left
  · intro w0 hs; obtain ⟨s1, s2⟩ := hs; go_simp; try (with_reducible rfl)
  try simp only [Act.put, List.setIfInBounds_toArray, List.set_cons_zero, List.set_cons_succ]
  refine wpAnyH_take (i := 16) (oi := ⟨_, _, _, _, _, _⟩) (v := ?_) rfl (by kernel_rfl) (by kernel_rfl) (by kernel_rfl) (fun _ _ _ h => h) (Or.inl ⟨by rfl, ?_⟩) hS ?_
  rotate_left
  · intro w0 hs; obtain ⟨s1, s2⟩ := hs; go_simp; try (with_reducible rfl)
  try simp only [Act.put, List.setIfInBounds_toArray, List.set_cons_zero, List.set_cons_succ]
  refine wpAnyH_done (by kernel_rfl) ?_ _
  go_wp2
  go_ret
  exact ⟨rfl, ((Below.refl v.heap.size v).drew).trans HB5.out⟩
theorem same_two {F : Nat → Prop} {w : World} {p r : Nat} {a : TS} (h : Two F w p r a a) (ha : a.ok) :
    Calls Try.prog 24 #[.pointer (some ⟨p, 0, none⟩), .pointer (some ⟨r, 0, none⟩)] w fun e w' => e = .returned (.bool true) ∧ Below w.heap.size w w' := by
  obtain ⟨o, o', h1, h2, _⟩ := h
  exact same_at p r a.xs a.sy a.ro a.fu a.ro a.fu o o' w h1 h2 ha.1
end Go.Proofs.Ytfeljjbelnlojaa
