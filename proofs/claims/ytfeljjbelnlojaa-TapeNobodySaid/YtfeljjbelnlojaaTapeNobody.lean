/- A tape that no call made; the law TapeNobody. -/
import Derived.Test.YtfeljjbelnlojaaTape
import Derived.Test.YtfeljjbelnlojaaTapeOpen
import Derived.Deep.LoopGhost
import Derived.Lib.SmallJoins
namespace Go.Proofs.Ytfeljjbelnlojaa
open Go Go.RowKit
set_option linter.unusedSimpArgs false

theorem nb_append (v : Value) (s : Value) (w : World) (P : Calls Try.prog 26 #[v] w fun e w' => e = .returned (.bool true) ∧ w = w') : Calls Try.prog 9 #[v, s] w fun e w' => e = .returned (.int .i64 2) ∧ w = w' := by
  replace P := Lib.hid P
  go_enter Try.func9, Try.ntmps9
  go_wp2_with fail
  refine P.out.mono ?_
  rintro e w1 ⟨rfl, rfl⟩
  go_wp2
  go_ret
  exact ⟨rfl, rfl⟩
theorem nb_sync (v : Value) (w : World) (P : Calls Try.prog 26 #[v] w fun e w' => e = .returned (.bool true) ∧ w = w') : Calls Try.prog 12 #[v] w fun e w' => e = .returned (.int .i64 2) ∧ w = w' := by
  replace P := Lib.hid P
  go_enter Try.func12, Try.ntmps12
  go_wp2_with fail
  refine P.out.mono ?_
  rintro e w1 ⟨rfl, rfl⟩
  go_wp2
  go_ret
  exact ⟨rfl, rfl⟩
theorem nb_cut (v : Value) (n : Int) (w : World) (P : Calls Try.prog 26 #[v] w fun e w' => e = .returned (.bool true) ∧ w = w') : Calls Try.prog 18 #[v, .int .i64 n] w fun e w' => e = .returned (.int .i64 2) ∧ w = w' := by
  replace P := Lib.hid P
  go_enter Try.func18, Try.ntmps18
  go_wp2_with fail
  refine P.out.mono ?_
  rintro e w1 ⟨rfl, rfl⟩
  go_wp2
  go_ret
  exact ⟨rfl, rfl⟩
theorem nb_fuse (v : Value) (n : Int) (w : World) (P : Calls Try.prog 26 #[v] w fun e w' => e = .returned (.bool true) ∧ w = w') : Calls Try.prog 17 #[v, .int .i64 n] w fun e w' => e = .returned (.int .i64 2) ∧ w = w' := by
  replace P := Lib.hid P
  go_enter Try.func17, Try.ntmps17
  go_wp2_with fail
  refine P.out.mono ?_
  rintro e w1 ⟨rfl, rfl⟩
  go_wp2
  go_ret
  exact ⟨rfl, rfl⟩
theorem nb_room (v : Value) (n : Int) (w : World) (P : Calls Try.prog 26 #[v] w fun e w' => e = .returned (.bool true) ∧ w = w') : Calls Try.prog 11 #[v, .int .i64 n] w fun e w' => e = .returned (.int .i64 2) ∧ w = w' := by
  replace P := Lib.hid P
  go_enter Try.func11, Try.ntmps11
  go_wp2_with fail
  refine P.out.mono ?_
  rintro e w1 ⟨rfl, rfl⟩
  go_wp2
  go_ret
  exact ⟨rfl, rfl⟩
theorem nb_crash (v : Value) (n : Int) (w : World) (P : Calls Try.prog 26 #[v] w fun e w' => e = .returned (.bool true) ∧ w = w') : Calls Try.prog 14 #[v, .int .i64 n] w fun e w' => e = .returned (.int .i64 2) ∧ w = w' := by
  replace P := Lib.hid P
  go_enter Try.func14, Try.ntmps14
  go_wp2_with fail
  refine P.out.mono ?_
  rintro e w1 ⟨rfl, rfl⟩
  go_wp2
  go_ret
  exact ⟨rfl, rfl⟩
theorem nb_bytes (v : Value) (w : World) (P : Calls Try.prog 26 #[v] w fun e w' => e = .returned (.bool true) ∧ w = w') : Calls Try.prog 10 #[v] w fun e w' => e = .returned (.slice none 0 0) ∧ w = w' := by
  replace P := Lib.hid P
  go_enter Try.func10, Try.ntmps10
  go_wp2_with fail
  refine P.out.mono ?_
  rintro e w1 ⟨rfl, rfl⟩
  go_wp2
  go_ret
  exact ⟨rfl, rfl⟩
theorem nb_synced (v : Value) (w : World) (P : Calls Try.prog 26 #[v] w fun e w' => e = .returned (.bool true) ∧ w = w') : Calls Try.prog 13 #[v] w fun e w' => e = .returned (.int .i64 0) ∧ w = w' := by
  replace P := Lib.hid P
  go_enter Try.func13, Try.ntmps13
  go_wp2_with fail
  refine P.out.mono ?_
  rintro e w1 ⟨rfl, rfl⟩
  go_wp2
  go_ret
  exact ⟨rfl, rfl⟩
theorem nb_copy (v : Value) (w : World) (P : Calls Try.prog 26 #[v] w fun e w' => e = .returned (.bool true) ∧ w = w') : Calls Try.prog 19 #[v] w fun e w' => e = .returned (.pointer none) ∧ w = w' := by
  replace P := Lib.hid P
  go_enter Try.func19, Try.ntmps19
  go_wp2_with fail
  refine P.out.mono ?_
  rintro e w1 ⟨rfl, rfl⟩
  go_wp2
  go_ret
  exact ⟨rfl, rfl⟩

set_option maxRecDepth 100000 in
set_option maxHeartbeats 3200000 in
theorem nobody_walk (op n : Int) (qs : Option Addr) (ls cs : Nat) (w : World) :
    Calls Try.prog 6 #[.agg #[.int .i64 op, .int .i64 n, .slice qs ls cs]] w fun e w' => e = .returned (.bool true) ∧ Below w.heap.size w w' := by
  have L := St.new3' w #[.int .i64 op, .int .i64 n, .slice qs ls cs] #[.bool false, .slice none 0 0, .int .i64 0, .int .i64 0, .int .i64 0] #[.pointer none, .pointer (some ⟨w.heap.size + 1, 0, none⟩)] 40 42 24
  go_enter Try.func6, Try.ntmps6
  go_upto_region 2 with fail
  generalize ((w.alloc (.cells #[.int .i64 op, .int .i64 n, .slice qs ls cs] 40)).alloc (.cells #[.bool false, .slice none 0 0, .int .i64 0, .int .i64 0, .int .i64 0] 42)).alloc (.cells #[.pointer none, .pointer (some ⟨w.heap.size + 1, 0, none⟩)] 24) = v0 at *
  go_loopg [11] 2 (fun g i wx => ∃ k : Nat, k ≤ 2 ∧ i = .int .i64 k ∧ g = 2 - k ∧ St w.heap.size w wx [(w.heap.size + 1 + 1, #[.pointer none, .pointer (some ⟨w.heap.size + 1, 0, none⟩)], 24), (w.heap.size + 1, #[.bool false, .slice none 0 0, .int .i64 0, .int .i64 0, .int .i64 0], 42), (w.heap.size, #[.int .i64 op, .int .i64 n, .slice qs ls cs], 40)])
  case atStart => exact ⟨0, by omega, rfl, rfl, L⟩
  case round =>
    clear L
    obtain ⟨k, hk, rfl, rfl, L⟩ := hrel
    by_cases hlt : k < 2
    · rcases (by omega : k = 0 ∨ k = 1) with rfl | rfl
      · rw [show ((0 : Nat) : Int) = 0 from rfl]
        have NB : Hid (∀ w', w'.cell? ⟨w.heap.size + 1, 0, none⟩ = some (.bool false) → Calls Try.prog 26 #[.pointer none] w' fun e w'' => e = .returned (.bool true) ∧ w' = w'') := fun w' _ => tnobody_nil w'
        have A0 := L.at (b := w.heap.size) (c := #[.int .i64 op, .int .i64 n, .slice qs ls cs]) (t := 40) (by simp)
        have A1 := L.at (b := w.heap.size + 1) (c := #[.bool false, .slice none 0 0, .int .i64 0, .int .i64 0, .int .i64 0]) (t := 42) (by simp)
        have A2 := L.at (b := w.heap.size + 1 + 1) (c := #[.pointer none, .pointer (some ⟨w.heap.size + 1, 0, none⟩)]) (t := 24) (by simp)
        have a0 := A0.cell
        have a1 := A1.cell
        have a2 := A2.cell
        have l0 := A0.lt
        have l1 := A1.lt
        go_upto_region 4 with fail
        have lz := l1
        generalize hv : wr = v at *
        have cz : v.cell? ⟨w.heap.size + 1, 0, none⟩ = some (.bool false) := A1.cell 0
        refine wp_region_held_drew (S := fun w' => Below v.heap.size v w' ∧ (∀ b o, b < v.heap.size → w'.cell? ⟨b, o, none⟩ = v.cell? ⟨b, o, none⟩)) (by kernel_rfl) (SK.start v) (fun hS => ?_)
        refine wpAnyH_take (i := 0) (oi := ⟨_, _, _, _, _, _⟩) (v := ?_) rfl (by kernel_rfl) (by kernel_rfl) (by kernel_rfl) (fun _ _ _ h => h) (Or.inl ⟨by rfl, ?_⟩) hS ?_
        rotate_left
        · intro w0 hs; obtain ⟨s1, s2⟩ := hs; go_simp; try (with_reducible rfl)
        try simp only [Act.put, List.setIfInBounds_toArray, List.set_cons_zero, List.set_cons_succ]
        refine wpAnyH_take (i := 1) (oi := ⟨_, _, _, _, _, _⟩) (v := ?_) rfl (by kernel_rfl) (by kernel_rfl) (by kernel_rfl) (fun _ _ _ h => h) (Or.inl ⟨by rfl, ?_⟩) hS ?_
        rotate_left
        · intro w0 hs; obtain ⟨s1, s2⟩ := hs; go_simp; try (with_reducible rfl)
        try simp only [Act.put, List.setIfInBounds_toArray, List.set_cons_zero, List.set_cons_succ]
        refine wpAnyH_take (i := 2) (oi := ⟨_, _, _, _, _, _⟩) (v := ?_) rfl (by kernel_rfl) (by kernel_rfl) (by kernel_rfl) (fun _ _ _ h => h) (Or.inl ⟨by rfl, ?_⟩) hS ?_
        rotate_left
        · intro w0 hs; obtain ⟨s1, s2⟩ := hs; go_simp; try (with_reducible rfl)
        try simp only [Act.put, List.setIfInBounds_toArray, List.set_cons_zero, List.set_cons_succ]
        refine wpAnyH_take (i := 4) (oi := ⟨_, _, _, _, _, _⟩) (v := ?_) rfl (by kernel_rfl) (by kernel_rfl) (by kernel_rfl) (fun _ _ _ h => h) (Or.inl ⟨by rfl, ?_⟩) hS ?_
        rotate_left
        · intro w0 hs; obtain ⟨s1, s2⟩ := hs; go_simp; try (with_reducible rfl)
        try simp only [Act.put, List.setIfInBounds_toArray, List.set_cons_zero, List.set_cons_succ]
        refine wpAnyH_take (i := 6) (oi := ⟨_, _, _, _, _, _⟩) (v := ?_) rfl (by kernel_rfl) (by kernel_rfl) (by kernel_rfl) (fun _ _ _ h => h) (Or.inl ⟨by rfl, ?_⟩) hS ?_
        rotate_left
        · intro w0 hs; obtain ⟨s1, s2⟩ := hs; go_simp; try (with_reducible rfl)
        try simp only [Act.put, List.setIfInBounds_toArray, List.set_cons_zero, List.set_cons_succ]
        refine wpAnyH_take (i := 7) (oi := ⟨_, _, _, _, _, _⟩) (v := ?_) rfl (by kernel_rfl) (by kernel_rfl) (by kernel_rfl) (fun _ _ _ h => h) (Or.inl ⟨by rfl, ?_⟩) hS ?_
        rotate_left
        · intro w0 hs; obtain ⟨s1, s2⟩ := hs; go_simp; try (with_reducible rfl)
        try simp only [Act.put, List.setIfInBounds_toArray, List.set_cons_zero, List.set_cons_succ]
        refine wpAnyH_take (i := 8) (oi := ⟨_, _, _, _, _, _⟩) (v := ?_) rfl (by kernel_rfl) (by kernel_rfl) (by kernel_rfl) (fun _ _ _ h => h) (Or.inl ⟨by rfl, ?_⟩) hS ?_
        rotate_left
        · intro w0 hs; obtain ⟨s1, s2⟩ := hs; go_simp; try (with_reducible rfl)
        try simp only [Act.put, List.setIfInBounds_toArray, List.set_cons_zero, List.set_cons_succ]
        refine wpAnyH_take (i := 10) (oi := ⟨_, _, _, _, _, _⟩) (v := ?_) rfl (by kernel_rfl) (by kernel_rfl) (by kernel_rfl) (fun _ _ _ h => h) (Or.inl ⟨by rfl, ?_⟩) hS ?_
        rotate_left
        · intro w0 hs; obtain ⟨s1, s2⟩ := hs; go_simp; try (with_reducible rfl)
        try simp only [Act.put, List.setIfInBounds_toArray, List.set_cons_zero, List.set_cons_succ]
        refine wpAnyH_take (i := 11) (oi := ⟨_, _, _, _, _, _⟩) (v := ?_) rfl (by kernel_rfl) (by kernel_rfl) (by kernel_rfl) (fun _ _ _ h => h) (Or.inl ⟨by rfl, ?_⟩) hS ?_
        rotate_left
        · intro w0 hs; obtain ⟨s1, s2⟩ := hs; go_simp; try (with_reducible rfl)
        try simp only [Act.put, List.setIfInBounds_toArray, List.set_cons_zero, List.set_cons_succ]
        refine wpAnyH_take (i := 12) (oi := ⟨_, _, _, _, _, _⟩) (v := ?_) rfl (by kernel_rfl) (by kernel_rfl) (by kernel_rfl) (fun _ _ _ h => h) (Or.inl ⟨by rfl, ?_⟩) hS ?_
        rotate_left
        · intro w0 hs; obtain ⟨s1, s2⟩ := hs; go_simp; try (with_reducible rfl)
        try simp only [Act.put, List.setIfInBounds_toArray, List.set_cons_zero, List.set_cons_succ]
        refine wpAnyH_take (i := 14) (oi := ⟨_, _, _, _, _, _⟩) (v := ?_) rfl (by kernel_rfl) (by kernel_rfl) (by kernel_rfl) (fun _ _ _ h => h) (Or.inl ⟨by rfl, ?_⟩) hS ?_
        rotate_left
        · intro w0 hs; obtain ⟨s1, s2⟩ := hs; go_simp; try (with_reducible rfl)
        try simp only [Act.put, List.setIfInBounds_toArray, List.set_cons_zero, List.set_cons_succ]
        refine wpAnyH_take (i := 15) (oi := ⟨_, _, _, _, _, _⟩) (v := ?_) rfl (by kernel_rfl) (by kernel_rfl) (by kernel_rfl) (fun _ _ _ h => h) (Or.inl ⟨by rfl, ?_⟩) hS ?_
        rotate_left
        · intro w0 hs; obtain ⟨s1, s2⟩ := hs; go_simp; try (with_reducible rfl)
        try simp only [Act.put, List.setIfInBounds_toArray, List.set_cons_zero, List.set_cons_succ]
        refine wpAnyH_take (i := 16) (oi := ⟨_, _, _, _, _, _⟩) (v := ?_) rfl (by kernel_rfl) (by kernel_rfl) (by kernel_rfl) (fun _ _ _ h => h) (Or.inl ⟨by rfl, ?_⟩) hS ?_
        rotate_left
        · intro w0 hs; obtain ⟨s1, s2⟩ := hs; go_simp; try (with_reducible rfl)
        try simp only [Act.put, List.setIfInBounds_toArray, List.set_cons_zero, List.set_cons_succ]
        refine wpAnyH_take (i := 18) (oi := ⟨_, _, _, _, _, _⟩) (v := ?_) rfl (by kernel_rfl) (by kernel_rfl) (by kernel_rfl) (fun _ _ _ h => h) (Or.inl ⟨by rfl, ?_⟩) hS ?_
        rotate_left
        · intro w0 hs; obtain ⟨s1, s2⟩ := hs; go_simp; try (with_reducible rfl)
        try simp only [Act.put, List.setIfInBounds_toArray, List.set_cons_zero, List.set_cons_succ]
        refine wpAnyH_take (i := 19) (oi := ⟨_, _, _, _, _, _⟩) (v := ?_) rfl (by kernel_rfl) (by kernel_rfl) (by kernel_rfl) (fun _ _ _ h => h) (Or.inl ⟨by rfl, ?_⟩) hS ?_
        rotate_left
        · intro w0 hs; obtain ⟨s1, s2⟩ := hs; go_simp; try (with_reducible rfl)
        try simp only [Act.put, List.setIfInBounds_toArray, List.set_cons_zero, List.set_cons_succ]
        refine wpAnyH_take (i := 20) (oi := ⟨_, _, _, _, _, _⟩) (v := ?_) rfl (by kernel_rfl) (by kernel_rfl) (by kernel_rfl) (fun _ _ _ h => h) (Or.inl ⟨by rfl, ?_⟩) hS ?_
        rotate_left
        · intro w0 hs; obtain ⟨s1, s2⟩ := hs; go_simp; try (with_reducible rfl)
        try simp only [Act.put, List.setIfInBounds_toArray, List.set_cons_zero, List.set_cons_succ]
        refine wpAnyH_take (i := 24) (oi := ⟨_, _, _, _, _, _⟩) (v := ?_) rfl (by kernel_rfl) (by kernel_rfl) (by kernel_rfl) (fun _ _ _ h => h) (Or.inl ⟨by rfl, ?_⟩) hS ?_
        rotate_left
        · intro w0 hs; obtain ⟨s1, s2⟩ := hs; go_simp; try (with_reducible rfl)
        try simp only [Act.put, List.setIfInBounds_toArray, List.set_cons_zero, List.set_cons_succ]
        refine wpAnyH_ready (rs := [3]) (by kernel_rfl) (by simp) ?_
        refine AllReadyH.cons (o := ⟨_, _, _, _, _, _⟩) rfl (fun K hK => ?_) AllReadyH.nil
        rw [if_pos (by rfl)]
        go_step
        refine (nb_append _ _ _ (NB.out _ ((hS.2 _ _ lz).trans cz))).mono ?_
        rintro e w1 ⟨rfl, rfl⟩
        simp only []
        refine hK.out _ _ hS (fun hS' => ?_)
        clear hS hK
        have hS := hS'; clear hS'
        try simp only [Act.put, List.setIfInBounds_toArray, List.set_cons_zero, List.set_cons_succ]
        refine wpAnyH_ready (rs := [5]) (by kernel_rfl) (by simp) ?_
        refine AllReadyH.cons (o := ⟨_, _, _, _, _, _⟩) rfl (fun K hK => ?_) AllReadyH.nil
        rw [if_pos (by rfl)]
        go_step
        refine (nb_sync _ _ (NB.out _ ((hS.2 _ _ lz).trans cz))).mono ?_
        rintro e w2 ⟨rfl, rfl⟩
        simp only []
        refine hK.out _ _ hS (fun hS' => ?_)
        clear hS hK
        have hS := hS'; clear hS'
        try simp only [Act.put, List.setIfInBounds_toArray, List.set_cons_zero, List.set_cons_succ]
        refine wpAnyH_ready (rs := [9]) (by kernel_rfl) (by simp) ?_
        refine AllReadyH.cons (o := ⟨_, _, _, _, _, _⟩) rfl (fun K hK => ?_) AllReadyH.nil
        rw [if_pos (by rfl)]
        go_step
        refine (nb_cut _ _ _ (NB.out _ ((hS.2 _ _ lz).trans cz))).mono ?_
        rintro e w3 ⟨rfl, rfl⟩
        simp only []
        refine hK.out _ _ hS (fun hS' => ?_)
        clear hS hK
        have hS := hS'; clear hS'
        try simp only [Act.put, List.setIfInBounds_toArray, List.set_cons_zero, List.set_cons_succ]
        refine wpAnyH_ready (rs := [13]) (by kernel_rfl) (by simp) ?_
        refine AllReadyH.cons (o := ⟨_, _, _, _, _, _⟩) rfl (fun K hK => ?_) AllReadyH.nil
        rw [if_pos (by rfl)]
        go_step
        refine (nb_fuse _ _ _ (NB.out _ ((hS.2 _ _ lz).trans cz))).mono ?_
        rintro e w4 ⟨rfl, rfl⟩
        simp only []
        refine hK.out _ _ hS (fun hS' => ?_)
        clear hS hK
        have hS := hS'; clear hS'
        try simp only [Act.put, List.setIfInBounds_toArray, List.set_cons_zero, List.set_cons_succ]
        refine wpAnyH_ready (rs := [17]) (by kernel_rfl) (by simp) ?_
        refine AllReadyH.cons (o := ⟨_, _, _, _, _, _⟩) rfl (fun K hK => ?_) AllReadyH.nil
        rw [if_pos (by rfl)]
        go_step
        refine (nb_room _ _ _ (NB.out _ ((hS.2 _ _ lz).trans cz))).mono ?_
        rintro e w5 ⟨rfl, rfl⟩
        simp only []
        refine hK.out _ _ hS (fun hS' => ?_)
        clear hS hK
        have hS := hS'; clear hS'
        try simp only [Act.put, List.setIfInBounds_toArray, List.set_cons_zero, List.set_cons_succ]
        refine wpAnyH_ready (rs := [21]) (by kernel_rfl) (by simp) ?_
        refine AllReadyH.cons (o := ⟨_, _, _, _, _, _⟩) rfl (fun K hK => ?_) AllReadyH.nil
        rw [if_pos (by rfl)]
        go_step
        refine (nb_crash _ _ _ (NB.out _ ((hS.2 _ _ lz).trans cz))).mono ?_
        rintro e w6 ⟨rfl, rfl⟩
        simp only []
        refine hK.out _ _ hS (fun hS' => ?_)
        clear hS hK
        have hS := hS'; clear hS'
        try simp only [Act.put, List.setIfInBounds_toArray, List.set_cons_zero, List.set_cons_succ]
        refine wpAnyH_ready (rs := [22]) (by kernel_rfl) (by simp) ?_
        refine AllReadyH.cons (o := ⟨_, _, _, _, _, _⟩) rfl (fun K hK => ?_) AllReadyH.nil
        rw [if_pos (by rfl)]
        go_simp
        refine hK.out _ _ (SK.alloc hS _) (fun hS' => ?_)
        clear hS hK
        have hS := hS'; clear hS'
        try simp only [Act.put, List.setIfInBounds_toArray, List.set_cons_zero, List.set_cons_succ]
        refine wpAnyH_take (i := 23) (oi := ⟨_, _, _, _, _, _⟩) (v := ?_) rfl (by kernel_rfl) (by kernel_rfl) (by kernel_rfl) (fun _ _ _ h => h) (Or.inl ⟨by rfl, ?_⟩) hS ?_
        rotate_left
        · intro w0 hs; obtain ⟨s1, s2⟩ := hs; go_simp; try (with_reducible rfl)
        try simp only [Act.put, List.setIfInBounds_toArray, List.set_cons_zero, List.set_cons_succ]
        refine wpAnyH_done (by kernel_rfl) ?_ _
        have L2 := (L.new #[.int .i64 2, .int .i64 2, .int .i64 2, .int .i64 2, .int .i64 2, .int .i64 2] 25).drew
        have LS := L.size
        clear hS
        have c6 : ∀ j : Nat, j < 6 → ((v.alloc (.cells #[.int .i64 2, .int .i64 2, .int .i64 2, .int .i64 2, .int .i64 2, .int .i64 2] 25)).drew).cell? ⟨v.heap.size, j, none⟩ = some (.int .i64 2) := by
          intro j hj
          have h := (L2.at (b := v.heap.size) (c := #[.int .i64 2, .int .i64 2, .int .i64 2, .int .i64 2, .int .i64 2, .int .i64 2]) (t := 25) (by simp)).cell j
          rcases (by omega : j = 0 ∨ j = 1 ∨ j = 2 ∨ j = 3 ∨ j = 4 ∨ j = 5) with rfl | rfl | rfl | rfl | rfl | rfl <;> exact h
        have H2 := Lib.hid L2
        clear a0 a1 a2 A0 A1 A2 cz L L2
        generalize hv2 : (v.alloc _).drew = v2 at *
        clear hv2
        go_wp2_with fail
        go_loopg [39] 6 (fun g i wx => ∃ j : Nat, j ≤ 6 ∧ i = .int .i64 j ∧ g = 6 - j ∧ wx = v2)
        case atStart => exact ⟨0, by omega, rfl, rfl, rfl⟩
        case round =>
          obtain ⟨j, hj, rfl, rfl, rfl⟩ := hrel
          by_cases h6 : j < 6
          · have d6 : (j : Int) < 6 := by omega
            have c := c6 j h6
            go_wp2
            go_roundg (6 - (j + 1))
            · exact ⟨j + 1, by omega, by simp, rfl, rfl⟩
            · omega
          · obtain rfl : j = 6 := by omega
            clear c6
            have Z2 := H2.out.at (b := w.heap.size + 1) (c := #[.bool false, .slice none 0 0, .int .i64 0, .int .i64 0, .int .i64 0]) (t := 42) (by simp)
            have PB := Lib.hid (nb_bytes _ _ (NB.out _ (Z2.cell 0)))
            have PS := Lib.hid (nb_synced _ _ (NB.out _ (Z2.cell 0)))
            have PC := Lib.hid (nb_copy _ _ (NB.out _ (Z2.cell 0)))
            clear Z2
            go_wp2_with fail
            refine PB.out.mono ?_
            rintro e w1 ⟨rfl, rfl⟩
            go_wp2_with fail
            refine PS.out.mono ?_
            rintro e w1 ⟨rfl, rfl⟩
            go_wp2_with fail
            refine PC.out.mono ?_
            rintro e w1 ⟨rfl, rfl⟩
            go_wp2
            go_roundg (2 - (0 + 1))
            · exact ⟨0 + 1, by omega, by simp, rfl, H2.out.sub (by simp)⟩
            · omega
      · rw [show ((1 : Nat) : Int) = 1 from rfl]
        have NB : Hid (∀ w', w'.cell? ⟨w.heap.size + 1, 0, none⟩ = some (.bool false) → Calls Try.prog 26 #[.pointer (some ⟨w.heap.size + 1, 0, none⟩)] w' fun e w'' => e = .returned (.bool true) ∧ w' = w'') := fun w' h => tnobody (w.heap.size + 1) false w' h
        have A0 := L.at (b := w.heap.size) (c := #[.int .i64 op, .int .i64 n, .slice qs ls cs]) (t := 40) (by simp)
        have A1 := L.at (b := w.heap.size + 1) (c := #[.bool false, .slice none 0 0, .int .i64 0, .int .i64 0, .int .i64 0]) (t := 42) (by simp)
        have A2 := L.at (b := w.heap.size + 1 + 1) (c := #[.pointer none, .pointer (some ⟨w.heap.size + 1, 0, none⟩)]) (t := 24) (by simp)
        have a0 := A0.cell
        have a1 := A1.cell
        have a2 := A2.cell
        have l0 := A0.lt
        have l1 := A1.lt
        go_upto_region 4 with fail
        have lz := l1
        generalize hv : wr = v at *
        have cz : v.cell? ⟨w.heap.size + 1, 0, none⟩ = some (.bool false) := A1.cell 0
        refine wp_region_held_drew (S := fun w' => Below v.heap.size v w' ∧ (∀ b o, b < v.heap.size → w'.cell? ⟨b, o, none⟩ = v.cell? ⟨b, o, none⟩)) (by kernel_rfl) (SK.start v) (fun hS => ?_)
        refine wpAnyH_take (i := 0) (oi := ⟨_, _, _, _, _, _⟩) (v := ?_) rfl (by kernel_rfl) (by kernel_rfl) (by kernel_rfl) (fun _ _ _ h => h) (Or.inl ⟨by rfl, ?_⟩) hS ?_
        rotate_left
        · intro w0 hs; obtain ⟨s1, s2⟩ := hs; go_simp; try (with_reducible rfl)
        try simp only [Act.put, List.setIfInBounds_toArray, List.set_cons_zero, List.set_cons_succ]
        refine wpAnyH_take (i := 1) (oi := ⟨_, _, _, _, _, _⟩) (v := ?_) rfl (by kernel_rfl) (by kernel_rfl) (by kernel_rfl) (fun _ _ _ h => h) (Or.inl ⟨by rfl, ?_⟩) hS ?_
        rotate_left
        · intro w0 hs; obtain ⟨s1, s2⟩ := hs; go_simp; try (with_reducible rfl)
        try simp only [Act.put, List.setIfInBounds_toArray, List.set_cons_zero, List.set_cons_succ]
        refine wpAnyH_take (i := 2) (oi := ⟨_, _, _, _, _, _⟩) (v := ?_) rfl (by kernel_rfl) (by kernel_rfl) (by kernel_rfl) (fun _ _ _ h => h) (Or.inl ⟨by rfl, ?_⟩) hS ?_
        rotate_left
        · intro w0 hs; obtain ⟨s1, s2⟩ := hs; go_simp; try (with_reducible rfl)
        try simp only [Act.put, List.setIfInBounds_toArray, List.set_cons_zero, List.set_cons_succ]
        refine wpAnyH_take (i := 4) (oi := ⟨_, _, _, _, _, _⟩) (v := ?_) rfl (by kernel_rfl) (by kernel_rfl) (by kernel_rfl) (fun _ _ _ h => h) (Or.inl ⟨by rfl, ?_⟩) hS ?_
        rotate_left
        · intro w0 hs; obtain ⟨s1, s2⟩ := hs; go_simp; try (with_reducible rfl)
        try simp only [Act.put, List.setIfInBounds_toArray, List.set_cons_zero, List.set_cons_succ]
        refine wpAnyH_take (i := 6) (oi := ⟨_, _, _, _, _, _⟩) (v := ?_) rfl (by kernel_rfl) (by kernel_rfl) (by kernel_rfl) (fun _ _ _ h => h) (Or.inl ⟨by rfl, ?_⟩) hS ?_
        rotate_left
        · intro w0 hs; obtain ⟨s1, s2⟩ := hs; go_simp; try (with_reducible rfl)
        try simp only [Act.put, List.setIfInBounds_toArray, List.set_cons_zero, List.set_cons_succ]
        refine wpAnyH_take (i := 7) (oi := ⟨_, _, _, _, _, _⟩) (v := ?_) rfl (by kernel_rfl) (by kernel_rfl) (by kernel_rfl) (fun _ _ _ h => h) (Or.inl ⟨by rfl, ?_⟩) hS ?_
        rotate_left
        · intro w0 hs; obtain ⟨s1, s2⟩ := hs; go_simp; try (with_reducible rfl)
        try simp only [Act.put, List.setIfInBounds_toArray, List.set_cons_zero, List.set_cons_succ]
        refine wpAnyH_take (i := 8) (oi := ⟨_, _, _, _, _, _⟩) (v := ?_) rfl (by kernel_rfl) (by kernel_rfl) (by kernel_rfl) (fun _ _ _ h => h) (Or.inl ⟨by rfl, ?_⟩) hS ?_
        rotate_left
        · intro w0 hs; obtain ⟨s1, s2⟩ := hs; go_simp; try (with_reducible rfl)
        try simp only [Act.put, List.setIfInBounds_toArray, List.set_cons_zero, List.set_cons_succ]
        refine wpAnyH_take (i := 10) (oi := ⟨_, _, _, _, _, _⟩) (v := ?_) rfl (by kernel_rfl) (by kernel_rfl) (by kernel_rfl) (fun _ _ _ h => h) (Or.inl ⟨by rfl, ?_⟩) hS ?_
        rotate_left
        · intro w0 hs; obtain ⟨s1, s2⟩ := hs; go_simp; try (with_reducible rfl)
        try simp only [Act.put, List.setIfInBounds_toArray, List.set_cons_zero, List.set_cons_succ]
        refine wpAnyH_take (i := 11) (oi := ⟨_, _, _, _, _, _⟩) (v := ?_) rfl (by kernel_rfl) (by kernel_rfl) (by kernel_rfl) (fun _ _ _ h => h) (Or.inl ⟨by rfl, ?_⟩) hS ?_
        rotate_left
        · intro w0 hs; obtain ⟨s1, s2⟩ := hs; go_simp; try (with_reducible rfl)
        try simp only [Act.put, List.setIfInBounds_toArray, List.set_cons_zero, List.set_cons_succ]
        refine wpAnyH_take (i := 12) (oi := ⟨_, _, _, _, _, _⟩) (v := ?_) rfl (by kernel_rfl) (by kernel_rfl) (by kernel_rfl) (fun _ _ _ h => h) (Or.inl ⟨by rfl, ?_⟩) hS ?_
        rotate_left
        · intro w0 hs; obtain ⟨s1, s2⟩ := hs; go_simp; try (with_reducible rfl)
        try simp only [Act.put, List.setIfInBounds_toArray, List.set_cons_zero, List.set_cons_succ]
        refine wpAnyH_take (i := 14) (oi := ⟨_, _, _, _, _, _⟩) (v := ?_) rfl (by kernel_rfl) (by kernel_rfl) (by kernel_rfl) (fun _ _ _ h => h) (Or.inl ⟨by rfl, ?_⟩) hS ?_
        rotate_left
        · intro w0 hs; obtain ⟨s1, s2⟩ := hs; go_simp; try (with_reducible rfl)
        try simp only [Act.put, List.setIfInBounds_toArray, List.set_cons_zero, List.set_cons_succ]
        refine wpAnyH_take (i := 15) (oi := ⟨_, _, _, _, _, _⟩) (v := ?_) rfl (by kernel_rfl) (by kernel_rfl) (by kernel_rfl) (fun _ _ _ h => h) (Or.inl ⟨by rfl, ?_⟩) hS ?_
        rotate_left
        · intro w0 hs; obtain ⟨s1, s2⟩ := hs; go_simp; try (with_reducible rfl)
        try simp only [Act.put, List.setIfInBounds_toArray, List.set_cons_zero, List.set_cons_succ]
        refine wpAnyH_take (i := 16) (oi := ⟨_, _, _, _, _, _⟩) (v := ?_) rfl (by kernel_rfl) (by kernel_rfl) (by kernel_rfl) (fun _ _ _ h => h) (Or.inl ⟨by rfl, ?_⟩) hS ?_
        rotate_left
        · intro w0 hs; obtain ⟨s1, s2⟩ := hs; go_simp; try (with_reducible rfl)
        try simp only [Act.put, List.setIfInBounds_toArray, List.set_cons_zero, List.set_cons_succ]
        refine wpAnyH_take (i := 18) (oi := ⟨_, _, _, _, _, _⟩) (v := ?_) rfl (by kernel_rfl) (by kernel_rfl) (by kernel_rfl) (fun _ _ _ h => h) (Or.inl ⟨by rfl, ?_⟩) hS ?_
        rotate_left
        · intro w0 hs; obtain ⟨s1, s2⟩ := hs; go_simp; try (with_reducible rfl)
        try simp only [Act.put, List.setIfInBounds_toArray, List.set_cons_zero, List.set_cons_succ]
        refine wpAnyH_take (i := 19) (oi := ⟨_, _, _, _, _, _⟩) (v := ?_) rfl (by kernel_rfl) (by kernel_rfl) (by kernel_rfl) (fun _ _ _ h => h) (Or.inl ⟨by rfl, ?_⟩) hS ?_
        rotate_left
        · intro w0 hs; obtain ⟨s1, s2⟩ := hs; go_simp; try (with_reducible rfl)
        try simp only [Act.put, List.setIfInBounds_toArray, List.set_cons_zero, List.set_cons_succ]
        refine wpAnyH_take (i := 20) (oi := ⟨_, _, _, _, _, _⟩) (v := ?_) rfl (by kernel_rfl) (by kernel_rfl) (by kernel_rfl) (fun _ _ _ h => h) (Or.inl ⟨by rfl, ?_⟩) hS ?_
        rotate_left
        · intro w0 hs; obtain ⟨s1, s2⟩ := hs; go_simp; try (with_reducible rfl)
        try simp only [Act.put, List.setIfInBounds_toArray, List.set_cons_zero, List.set_cons_succ]
        refine wpAnyH_take (i := 24) (oi := ⟨_, _, _, _, _, _⟩) (v := ?_) rfl (by kernel_rfl) (by kernel_rfl) (by kernel_rfl) (fun _ _ _ h => h) (Or.inl ⟨by rfl, ?_⟩) hS ?_
        rotate_left
        · intro w0 hs; obtain ⟨s1, s2⟩ := hs; go_simp; try (with_reducible rfl)
        try simp only [Act.put, List.setIfInBounds_toArray, List.set_cons_zero, List.set_cons_succ]
        refine wpAnyH_ready (rs := [3]) (by kernel_rfl) (by simp) ?_
        refine AllReadyH.cons (o := ⟨_, _, _, _, _, _⟩) rfl (fun K hK => ?_) AllReadyH.nil
        rw [if_pos (by rfl)]
        go_step
        refine (nb_append _ _ _ (NB.out _ ((hS.2 _ _ lz).trans cz))).mono ?_
        rintro e w1 ⟨rfl, rfl⟩
        simp only []
        refine hK.out _ _ hS (fun hS' => ?_)
        clear hS hK
        have hS := hS'; clear hS'
        try simp only [Act.put, List.setIfInBounds_toArray, List.set_cons_zero, List.set_cons_succ]
        refine wpAnyH_ready (rs := [5]) (by kernel_rfl) (by simp) ?_
        refine AllReadyH.cons (o := ⟨_, _, _, _, _, _⟩) rfl (fun K hK => ?_) AllReadyH.nil
        rw [if_pos (by rfl)]
        go_step
        refine (nb_sync _ _ (NB.out _ ((hS.2 _ _ lz).trans cz))).mono ?_
        rintro e w2 ⟨rfl, rfl⟩
        simp only []
        refine hK.out _ _ hS (fun hS' => ?_)
        clear hS hK
        have hS := hS'; clear hS'
        try simp only [Act.put, List.setIfInBounds_toArray, List.set_cons_zero, List.set_cons_succ]
        refine wpAnyH_ready (rs := [9]) (by kernel_rfl) (by simp) ?_
        refine AllReadyH.cons (o := ⟨_, _, _, _, _, _⟩) rfl (fun K hK => ?_) AllReadyH.nil
        rw [if_pos (by rfl)]
        go_step
        refine (nb_cut _ _ _ (NB.out _ ((hS.2 _ _ lz).trans cz))).mono ?_
        rintro e w3 ⟨rfl, rfl⟩
        simp only []
        refine hK.out _ _ hS (fun hS' => ?_)
        clear hS hK
        have hS := hS'; clear hS'
        try simp only [Act.put, List.setIfInBounds_toArray, List.set_cons_zero, List.set_cons_succ]
        refine wpAnyH_ready (rs := [13]) (by kernel_rfl) (by simp) ?_
        refine AllReadyH.cons (o := ⟨_, _, _, _, _, _⟩) rfl (fun K hK => ?_) AllReadyH.nil
        rw [if_pos (by rfl)]
        go_step
        refine (nb_fuse _ _ _ (NB.out _ ((hS.2 _ _ lz).trans cz))).mono ?_
        rintro e w4 ⟨rfl, rfl⟩
        simp only []
        refine hK.out _ _ hS (fun hS' => ?_)
        clear hS hK
        have hS := hS'; clear hS'
        try simp only [Act.put, List.setIfInBounds_toArray, List.set_cons_zero, List.set_cons_succ]
        refine wpAnyH_ready (rs := [17]) (by kernel_rfl) (by simp) ?_
        refine AllReadyH.cons (o := ⟨_, _, _, _, _, _⟩) rfl (fun K hK => ?_) AllReadyH.nil
        rw [if_pos (by rfl)]
        go_step
        refine (nb_room _ _ _ (NB.out _ ((hS.2 _ _ lz).trans cz))).mono ?_
        rintro e w5 ⟨rfl, rfl⟩
        simp only []
        refine hK.out _ _ hS (fun hS' => ?_)
        clear hS hK
        have hS := hS'; clear hS'
        try simp only [Act.put, List.setIfInBounds_toArray, List.set_cons_zero, List.set_cons_succ]
        refine wpAnyH_ready (rs := [21]) (by kernel_rfl) (by simp) ?_
        refine AllReadyH.cons (o := ⟨_, _, _, _, _, _⟩) rfl (fun K hK => ?_) AllReadyH.nil
        rw [if_pos (by rfl)]
        go_step
        refine (nb_crash _ _ _ (NB.out _ ((hS.2 _ _ lz).trans cz))).mono ?_
        rintro e w6 ⟨rfl, rfl⟩
        simp only []
        refine hK.out _ _ hS (fun hS' => ?_)
        clear hS hK
        have hS := hS'; clear hS'
        try simp only [Act.put, List.setIfInBounds_toArray, List.set_cons_zero, List.set_cons_succ]
        refine wpAnyH_ready (rs := [22]) (by kernel_rfl) (by simp) ?_
        refine AllReadyH.cons (o := ⟨_, _, _, _, _, _⟩) rfl (fun K hK => ?_) AllReadyH.nil
        rw [if_pos (by rfl)]
        go_simp
        refine hK.out _ _ (SK.alloc hS _) (fun hS' => ?_)
        clear hS hK
        have hS := hS'; clear hS'
        try simp only [Act.put, List.setIfInBounds_toArray, List.set_cons_zero, List.set_cons_succ]
        refine wpAnyH_take (i := 23) (oi := ⟨_, _, _, _, _, _⟩) (v := ?_) rfl (by kernel_rfl) (by kernel_rfl) (by kernel_rfl) (fun _ _ _ h => h) (Or.inl ⟨by rfl, ?_⟩) hS ?_
        rotate_left
        · intro w0 hs; obtain ⟨s1, s2⟩ := hs; go_simp; try (with_reducible rfl)
        try simp only [Act.put, List.setIfInBounds_toArray, List.set_cons_zero, List.set_cons_succ]
        refine wpAnyH_done (by kernel_rfl) ?_ _
        have L2 := (L.new #[.int .i64 2, .int .i64 2, .int .i64 2, .int .i64 2, .int .i64 2, .int .i64 2] 25).drew
        have LS := L.size
        clear hS
        have c6 : ∀ j : Nat, j < 6 → ((v.alloc (.cells #[.int .i64 2, .int .i64 2, .int .i64 2, .int .i64 2, .int .i64 2, .int .i64 2] 25)).drew).cell? ⟨v.heap.size, j, none⟩ = some (.int .i64 2) := by
          intro j hj
          have h := (L2.at (b := v.heap.size) (c := #[.int .i64 2, .int .i64 2, .int .i64 2, .int .i64 2, .int .i64 2, .int .i64 2]) (t := 25) (by simp)).cell j
          rcases (by omega : j = 0 ∨ j = 1 ∨ j = 2 ∨ j = 3 ∨ j = 4 ∨ j = 5) with rfl | rfl | rfl | rfl | rfl | rfl <;> exact h
        have H2 := Lib.hid L2
        clear a0 a1 a2 A0 A1 A2 cz L L2
        generalize hv2 : (v.alloc _).drew = v2 at *
        clear hv2
        go_wp2_with fail
        go_loopg [39] 6 (fun g i wx => ∃ j : Nat, j ≤ 6 ∧ i = .int .i64 j ∧ g = 6 - j ∧ wx = v2)
        case atStart => exact ⟨0, by omega, rfl, rfl, rfl⟩
        case round =>
          obtain ⟨j, hj, rfl, rfl, rfl⟩ := hrel
          by_cases h6 : j < 6
          · have d6 : (j : Int) < 6 := by omega
            have c := c6 j h6
            go_wp2
            go_roundg (6 - (j + 1))
            · exact ⟨j + 1, by omega, by simp, rfl, rfl⟩
            · omega
          · obtain rfl : j = 6 := by omega
            clear c6
            have Z2 := H2.out.at (b := w.heap.size + 1) (c := #[.bool false, .slice none 0 0, .int .i64 0, .int .i64 0, .int .i64 0]) (t := 42) (by simp)
            have PB := Lib.hid (nb_bytes _ _ (NB.out _ (Z2.cell 0)))
            have PS := Lib.hid (nb_synced _ _ (NB.out _ (Z2.cell 0)))
            have PC := Lib.hid (nb_copy _ _ (NB.out _ (Z2.cell 0)))
            clear Z2
            go_wp2_with fail
            refine PB.out.mono ?_
            rintro e w1 ⟨rfl, rfl⟩
            go_wp2_with fail
            refine PS.out.mono ?_
            rintro e w1 ⟨rfl, rfl⟩
            go_wp2_with fail
            refine PC.out.mono ?_
            rintro e w1 ⟨rfl, rfl⟩
            go_wp2
            go_roundg (2 - (1 + 1))
            · exact ⟨1 + 1, by omega, by simp, rfl, H2.out.sub (by simp)⟩
            · omega
    · obtain rfl : k = 2 := by omega
      have HF := Lib.hid L.below
      clear L
      go_wp2
      go_ret
      exact ⟨rfl, HF.out⟩
open Go.Joins Go.ChangeShapes Go.WideShapes Go.ChangeAt in
/-- A Do BY VALUE: two integers and a slice -/
theorem open_do {H : Type} {enc : TypeId × Value → H} {w : World} {base : Nat} {spare : Nat → Bool} {held : Bool} {r : Reach} {b0 : Nat} {v : Value} {d : DataW H} {p : List MemPlace}
    (hv : Value.okWide Try.prog w r b0 40 v) (h : DataW.Trod enc Try.prog w base spare held 40 v d p) :
    ∃ (op n : Int) (qs : Option Addr) (ls cs : Nat), v = .agg #[.int .i64 op, .int .i64 n, .slice qs ls cs] := by
  obtain ⟨v0, v1, v2, y0, y1, y2, m, rfl, rfl, rfl, h0, h1, h2⟩ := open_agg3 Try.underlying40 (by kernel_rfl) (by kernel_rfl) hv h
  obtain ⟨a, e0, _, _⟩ := DataW.trod_int Try.underlying3 h0
  obtain ⟨b, e1, _, _⟩ := DataW.trod_int Try.underlying3 h1
  obtain ⟨qs, ls, cs, e2⟩ := slice_form Try.underlying28 h2
  simp at e0 e1 e2
  subst e0 e1 e2
  exact ⟨a, b, qs, ls, cs, rfl⟩
theorem nobody_any (op n : Int) (qs : Option Addr) (ls cs : Nat) (w : World) :
    Calls Try.prog 6 #[.agg #[.int .i64 op, .int .i64 n, .slice qs ls cs]] w fun e w' => e = .returned (.bool true) ∧ Below w.heap.size w w' := nobody_walk op n qs ls cs w
end Go.Proofs.Ytfeljjbelnlojaa
