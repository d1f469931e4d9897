/- The laws' own walks: TargetBack, TargetCuts. -/
import Derived.Test.YtacgcaebolmpfaaTgtCompact
import Derived.Test.YtacgcaebolmpfaaTgtPlain
import Derived.Test.YtacgcaebolmpfaaOpen
namespace Go.Proofs.Ytacgcaebolmpfaa
open Go.RowKit
set_option linter.unusedSimpArgs false

theorem tgt_easy : tgt 486604799 = 65535 * 2 ^ 208 := by decide +kernel
theorem wv_easy : wv (tgt 486604799) = .agg #[.int .u64 0, .int .u64 0, .int .u64 0, .int .u64 4294901760] := by
  rw [tgt_easy]
  have e0 : wd (65535 * 2 ^ 208) 0 = 0 := by decide +kernel
  have e1 : wd (65535 * 2 ^ 208) 1 = 0 := by decide +kernel
  have e2 : wd (65535 * 2 ^ 208) 2 = 0 := by decide +kernel
  have e3 : wd (65535 * 2 ^ 208) 3 = 4294901760 := by decide +kernel
  unfold wv; rw [e0, e1, e2, e3]
theorem terr_easy : tErr (tgt 486604799) = 0 := by rw [tgt_easy]; decide +kernel
set_option maxHeartbeats 400000 in
theorem awake_any (w : World) : Calls Try.prog 12 #[] w fun e w' => e = .returned (.bool true) ∧ Below w.heap.size w w' := by
  have h := fun w => wexpand 486604799 w (by decide)
  have hq := weql (tgt 486604799) (tgt 486604799) (tgt_lt _) (tgt_lt _)
  rw [beq_self_eq_true, wv_easy] at hq
  rw [wv_easy, terr_easy, show ((486604799 : Nat) : Int) = 486604799 from rfl] at h
  have H := Lib.hid h
  clear h
  go_enter Try.func12, Try.ntmps12
  go_wp2_with (go_at_call 10; refine (H.out _).mono ?_; rintro e w1 ⟨rfl, hb1⟩)
  go_ret
  exact ⟨rfl, hb1.alloc hb1.size _⟩

set_option maxHeartbeats 800000 in
theorem back_walk0 (b : Nat) (w : World) (hb : b < 2 ^ 32) (h0 : tgt b = 0) :
    Calls Try.prog 3 #[.int .u32 (b : Int)] w fun e w' => e = .returned (.bool true) ∧ Below w.heap.size w w' := by
  have p1 := fun w => wexpand b w hb
  have p2 := fun w => rexpand b w hb
  have hq := weql 0 0 W_pos W_pos
  rw [h0, wv_zero, tErr_zero] at p1 p2
  rw [beq_self_eq_true, wv_zero] at hq
  have P1 := Lib.hid p1
  have P2 := Lib.hid p2
  clear p1 p2 h0
  go_enter Try.func3, Try.ntmps3
  go_wp2_with fail
  refine (P1.out _).mono ?_
  rintro e w1 ⟨rfl, hb1⟩
  have L := (((St.refl w).call hb1).new (wcs 0) 25)
  clear hb1
  rw [wc_zero] at L
  go_wp2_with fail
  refine (P2.out _).mono ?_
  rintro e w2 ⟨rfl, hb2⟩
  replace L := (L.call hb2).new (wcs 0) 25
  clear hb2
  rw [wc_zero] at L
  obtain ⟨c1, c0, l1, l0⟩ := L.c2
  go_wp2_with fail
  refine (awake_any _).mono ?_
  rintro e w3 ⟨rfl, hb3⟩
  replace L := L.call hb3
  clear hb3 c1 c0 l1 l0
  go_wp2_with fail
  go_ret
  exact ⟨rfl, L.below⟩
set_option maxHeartbeats 800000 in
theorem back_walk (b t c : Nat) (w : World) (hb : b < 2 ^ 32) (ht : t < W256) (hc : c < 2 ^ 32) (e1 : tgt b = t) (e2 : cpt t = c) (e3 : tgt c = t) (h0 : t ≠ 0) :
    Calls Try.prog 3 #[.int .u32 (b : Int)] w fun e w' => e = .returned (.bool true) ∧ Below w.heap.size w w' := by
  have p1 := fun w => wexpand b w hb
  have p2 := fun w => rexpand b w hb
  have p3 := fun w => wcompact t w ht
  have p4 := fun w => wexpand c w hc
  have hq := weql t t ht ht
  rw [e1, tErr_pos h0] at p1 p2
  rw [e2] at p3
  rw [e3, tErr_pos h0] at p4
  rw [beq_self_eq_true] at hq
  have P1 := Lib.hid p1
  have P2 := Lib.hid p2
  have P3 := Lib.hid p3
  have P4 := Lib.hid p4
  clear p1 p2 p3 p4 e1 e2 e3 h0
  go_enter Try.func3, Try.ntmps3
  go_wp2_with fail
  refine (P1.out _).mono ?_
  rintro e w1 ⟨rfl, hb1⟩
  have L := (((St.refl w).call hb1).new (wcs t) 25)
  clear hb1
  go_wp2_with fail
  refine (P2.out _).mono ?_
  rintro e w2 ⟨rfl, hb2⟩
  replace L := (L.call hb2).new (wcs t) 25
  clear hb2
  obtain ⟨c1, c0, l1, l0⟩ := L.c2
  go_wp2_with fail
  refine (P3.out _).mono ?_
  rintro e w3 ⟨rfl, hb3⟩
  replace L := L.call hb3
  clear hb3 c1 c0 l1 l0
  obtain ⟨c1, c0, l1, l0⟩ := L.c2
  go_wp2_with fail
  refine (P4.out _).mono ?_
  rintro e w4 ⟨rfl, hb4⟩
  replace L := (L.call hb4).new (wcs t) 25
  clear hb4 c1 c0 l1 l0
  obtain ⟨c1, c0, l1, l0⟩ := L.tail.c2
  go_wp2_with fail
  go_ret
  exact ⟨rfl, L.below⟩
theorem back_any (a : Int) (w : World) (ha : (Lit.int .u32 a).wf = true) :
    Calls Try.prog 3 #[.int .u32 a] w fun e w' => e = .returned (.bool true) ∧ Below w.heap.size w w' := by
  obtain ⟨h0, h1⟩ := bounds_u32 ha
  obtain ⟨b, rfl⟩ := Int.eq_ofNat_of_zero_le h0
  by_cases hz : tgt b = 0
  · exact back_walk0 b w (by omega) hz
  · exact back_walk b (tgt b) (cpt (tgt b)) w (by omega) (tgt_lt b) (cpt_lt (tgt_lt b)) rfl rfl (tgt_back b hz) hz

set_option maxHeartbeats 800000 in
theorem cuts_walk0 (w : World) :
    Calls Try.prog 4 #[wv 0] w fun e w' => e = .returned (.bool true) ∧ Below w.heap.size w w' := by
  have p1 := fun w => wcompact 0 w W_pos
  have hq := weql 0 0 W_pos W_pos
  rw [beq_self_eq_true, wv_zero] at hq
  rw [cpt_zero, wv_zero] at p1
  rw [wv_zero]
  have P1 := Lib.hid p1
  clear p1
  have L := ((St.refl w).new (wcs 0) 25)
  rw [wc_zero] at L
  go_enter Try.func4, Try.ntmps4
  go_wp2_with fail
  refine (P1.out _).mono ?_
  rintro e w1 ⟨rfl, hb1⟩
  replace L := L.call hb1
  clear hb1
  rw [show ((0 : Nat) : Int) = 0 from rfl]
  go_wp2_with fail
  refine (awake_any _).mono ?_
  rintro e w3 ⟨rfl, hb3⟩
  replace L := L.call hb3
  clear hb3
  go_wp2_with fail
  go_ret
  exact ⟨rfl, L.below⟩
set_option maxRecDepth 100000 in
set_option maxHeartbeats 800000 in
theorem cuts_walk (t c u : Nat) (w : World) (ht : t < W256) (hc : c < 2 ^ 32) (hu : u < W256) (e2 : cpt t = c) (e3 : tgt c = u) (h0 : t ≠ 0) (hu0 : u ≠ 0) (hle : u ≤ t) (hbl : blen u = blen t) :
    Calls Try.prog 4 #[wv t] w fun e w' => e = .returned (.bool true) ∧ Below w.heap.size w w' := by
  have p1 := fun w => wcompact t w ht
  have p2 := fun w => wexpand c w hc
  have p3 := fun w => rcmp u t w hu ht
  have p4 := fun w => rbits u w hu
  have p5 := fun w => rbits t w ht
  have hq := weql t 0 ht W_pos
  rw [wv_zero, show (t == 0) = false from by simpa using h0] at hq
  rw [e2] at p1
  rw [e3, tErr_pos hu0] at p2
  rw [hbl] at p4
  have P1 := Lib.hid p1
  have P2 := Lib.hid p2
  have P3 := Lib.hid p3
  have P4 := Lib.hid p4
  have P5 := Lib.hid p5
  have hcm : cmpN u t ≤ 0 := by unfold cmpN; split; decide; rw [if_neg (by omega)]; decide
  generalize cmpN u t = z at *
  clear p1 p2 p3 p4 p5 e2 e3 h0 hu0 hle hbl
  have L := ((St.refl w).new (wcs t) 25)
  go_enter Try.func4, Try.ntmps4
  go_wp2_with fail
  refine (P1.out _).mono ?_
  rintro e w1 ⟨rfl, hb1⟩
  replace L := L.call hb1
  clear hb1
  go_wp2_with fail
  refine (P2.out _).mono ?_
  rintro e w2 ⟨rfl, hb2⟩
  replace L := (L.call hb2).new (wcs u) 25
  clear hb2
  go_upto_region 5 with fail
  generalize hg : w2.alloc (.cells #[.int .u64 (wd u 0), .int .u64 (wd u 1), .int .u64 (wd u 2), .int .u64 (wd u 3)] 25) = v at *
  generalize w2.heap.size = g at *
  clear hg
  obtain ⟨c1, c0, l1, l0⟩ := L.c2
  refine wp_region_held_drew (S := fun w' => Below v.heap.size v w' ∧ (∀ b o, b < v.heap.size → w'.cell? ⟨b, o, none⟩ = v.cell? ⟨b, o, none⟩)) (by kernel_rfl) (SK.start v) (fun hS => ?_)
  refine wpAnyH_take (i := 0) (oi := ⟨_, _, _, _, _, _⟩) (v := ?_) rfl (by kernel_rfl) (by kernel_rfl) (by kernel_rfl) (fun _ _ _ h => h) (Or.inl ⟨by rfl, ?_⟩) hS ?_
  rotate_left
  · intro w0 hs; obtain ⟨s1, s2⟩ := hs; go_simp; try (with_reducible rfl)
  try simp only [Act.put, List.setIfInBounds_toArray, List.set_cons_zero, List.set_cons_succ]
  refine wpAnyH_take (i := 1) (oi := ⟨_, _, _, _, _, _⟩) (v := ?_) rfl (by kernel_rfl) (by kernel_rfl) (by kernel_rfl) (fun _ _ _ h => h) (Or.inl ⟨by rfl, ?_⟩) hS ?_
  rotate_left
  · intro w0 hs; obtain ⟨s1, s2⟩ := hs; go_simp; try (with_reducible rfl)
  try simp only [Act.put, List.setIfInBounds_toArray, List.set_cons_zero, List.set_cons_succ]
  refine wpAnyH_take (i := 2) (oi := ⟨_, _, _, _, _, _⟩) (v := ?_) rfl (by kernel_rfl) (by kernel_rfl) (by kernel_rfl) (fun _ _ _ h => h) (Or.inl ⟨by rfl, ?_⟩) hS ?_
  rotate_left
  · intro w0 hs; obtain ⟨s1, s2⟩ := hs; go_simp; try (with_reducible rfl)
  try simp only [Act.put, List.setIfInBounds_toArray, List.set_cons_zero, List.set_cons_succ]
  refine wpAnyH_take (i := 3) (oi := ⟨_, _, _, _, _, _⟩) (v := ?_) rfl (by kernel_rfl) (by kernel_rfl) (by kernel_rfl) (fun _ _ _ h => h) (Or.inl ⟨by rfl, ?_⟩) hS ?_
  rotate_left
  · intro w0 hs; obtain ⟨s1, s2⟩ := hs; go_simp; try (with_reducible rfl)
  try simp only [Act.put, List.setIfInBounds_toArray, List.set_cons_zero, List.set_cons_succ]
  refine wpAnyH_take (i := 4) (oi := ⟨_, _, _, _, _, _⟩) (v := ?_) rfl (by kernel_rfl) (by kernel_rfl) (by kernel_rfl) (fun _ _ _ h => h) (Or.inl ⟨by rfl, ?_⟩) hS ?_
  rotate_left
  · intro w0 hs; obtain ⟨s1, s2⟩ := hs; go_simp; try (with_reducible rfl)
  try simp only [Act.put, List.setIfInBounds_toArray, List.set_cons_zero, List.set_cons_succ]
  refine wpAnyH_ready (rs := [5]) (by kernel_rfl) (by simp) ?_
  refine AllReadyH.cons (o := ⟨_, _, _, _, _, _⟩) rfl (fun K hK => ?_) AllReadyH.nil
  rw [if_pos (by rfl)]
  go_step
  refine (P3.out _).mono ?_
  rintro e w1 ⟨rfl, hw1⟩
  simp only []
  refine hK.out _ _ (SK.keep hS hw1) (fun hS' => ?_)
  clear hS hK
  have hS := hS'; clear hS'
  try simp only [Act.put, List.setIfInBounds_toArray, List.set_cons_zero, List.set_cons_succ]
  refine wpAnyH_take (i := 6) (oi := ⟨_, _, _, _, _, _⟩) (v := ?_) rfl (by kernel_rfl) (by kernel_rfl) (by kernel_rfl) (fun _ _ _ h => h) (Or.inl ⟨by rfl, ?_⟩) hS ?_
  rotate_left
  · intro w0 hs; obtain ⟨s1, s2⟩ := hs; go_simp; try (with_reducible rfl)
  try simp only [Act.put, List.setIfInBounds_toArray, List.set_cons_zero, List.set_cons_succ]
  refine wpAnyH_take (i := 7) (oi := ⟨_, _, _, _, _, _⟩) (v := ?_) rfl (by kernel_rfl) (by kernel_rfl) (by kernel_rfl) (fun _ _ _ h => h) (Or.inl ⟨by rfl, ?_⟩) hS ?_
  rotate_left
  · intro w0 hs; obtain ⟨s1, s2⟩ := hs; go_simp; try (with_reducible rfl)
  try simp only [Act.put, List.setIfInBounds_toArray, List.set_cons_zero, List.set_cons_succ]
  refine wpAnyH_take (i := 8) (oi := ⟨_, _, _, _, _, _⟩) (v := ?_) rfl (by kernel_rfl) (by kernel_rfl) (by kernel_rfl) (fun _ _ _ h => h) (Or.inl ⟨by rfl, ?_⟩) hS ?_
  rotate_left
  · intro w0 hs; obtain ⟨s1, s2⟩ := hs; go_simp; try (with_reducible rfl)
  try simp only [Act.put, List.setIfInBounds_toArray, List.set_cons_zero, List.set_cons_succ]
  refine wpAnyH_take (i := 9) (oi := ⟨_, _, _, _, _, _⟩) (v := ?_) rfl (by kernel_rfl) (by kernel_rfl) (by kernel_rfl) (fun _ _ _ h => h) (Or.inl ⟨by rfl, ?_⟩) hS ?_
  rotate_left
  · intro w0 hs; obtain ⟨s1, s2⟩ := hs; go_simp; try (with_reducible rfl)
  try simp only [Act.put, List.setIfInBounds_toArray, List.set_cons_zero, List.set_cons_succ]
  refine wpAnyH_take (i := 11) (oi := ⟨_, _, _, _, _, _⟩) (v := ?_) rfl (by kernel_rfl) (by kernel_rfl) (by kernel_rfl) (fun _ _ _ h => h) (Or.inl ⟨by rfl, ?_⟩) hS ?_
  rotate_left
  · intro w0 hs; obtain ⟨s1, s2⟩ := hs; go_simp; try (with_reducible rfl)
  try simp only [Act.put, List.setIfInBounds_toArray, List.set_cons_zero, List.set_cons_succ]
  refine wpAnyH_ready (rs := [10]) (by kernel_rfl) (by simp) ?_
  refine AllReadyH.cons (o := ⟨_, _, _, _, _, _⟩) rfl (fun K hK => ?_) AllReadyH.nil
  rw [if_pos (by rfl)]
  go_step
  refine (P4.out _).mono ?_
  rintro e w2 ⟨rfl, hw2⟩
  simp only []
  refine hK.out _ _ (SK.keep hS hw2) (fun hS' => ?_)
  clear hS hK
  have hS := hS'; clear hS'
  try simp only [Act.put, List.setIfInBounds_toArray, List.set_cons_zero, List.set_cons_succ]
  refine wpAnyH_ready (rs := [12]) (by kernel_rfl) (by simp) ?_
  refine AllReadyH.cons (o := ⟨_, _, _, _, _, _⟩) rfl (fun K hK => ?_) AllReadyH.nil
  rw [if_pos (by rfl)]
  go_step
  refine (P5.out _).mono ?_
  rintro e w3 ⟨rfl, hw3⟩
  simp only []
  refine hK.out _ _ (SK.keep hS hw3) (fun hS' => ?_)
  clear hS hK
  have hS := hS'; clear hS'
  try simp only [Act.put, List.setIfInBounds_toArray, List.set_cons_zero, List.set_cons_succ]
  refine wpAnyH_take (i := 13) (oi := ⟨_, _, _, _, _, _⟩) (v := ?_) rfl (by kernel_rfl) (by kernel_rfl) (by kernel_rfl) (fun _ _ _ h => h) (Or.inl ⟨by rfl, ?_⟩) hS ?_
  rotate_left
  · intro w0 hs; obtain ⟨s1, s2⟩ := hs; go_simp; try (with_reducible rfl)
  try simp only [Act.put, List.setIfInBounds_toArray, List.set_cons_zero, List.set_cons_succ]
  refine wpAnyH_take (i := 14) (oi := ⟨_, _, _, _, _, _⟩) (v := ?_) rfl (by kernel_rfl) (by kernel_rfl) (by kernel_rfl) (fun _ _ _ h => h) (Or.inl ⟨by rfl, ?_⟩) hS ?_
  rotate_left
  · intro w0 hs; obtain ⟨s1, s2⟩ := hs; go_simp; try (with_reducible rfl)
  try simp only [Act.put, List.setIfInBounds_toArray, List.set_cons_zero, List.set_cons_succ]
  refine wpAnyH_take (i := 15) (oi := ⟨_, _, _, _, _, _⟩) (v := ?_) rfl (by kernel_rfl) (by kernel_rfl) (by kernel_rfl) (fun _ _ _ h => h) (Or.inl ⟨by rfl, ?_⟩) hS ?_
  rotate_left
  · intro w0 hs; obtain ⟨s1, s2⟩ := hs; go_simp; try (with_reducible rfl)
  try simp only [Act.put, List.setIfInBounds_toArray, List.set_cons_zero, List.set_cons_succ]
  refine wpAnyH_done (by kernel_rfl) ?_ _

  replace L := L.call hS.1
  go_wp2
  go_ret
  exact ⟨rfl, L.below⟩
theorem cuts_any (t : Nat) (w : World) (ht : t < W256) :
    Calls Try.prog 4 #[wv t] w fun e w' => e = .returned (.bool true) ∧ Below w.heap.size w w' := by
  by_cases hz : t = 0
  · subst hz; exact cuts_walk0 w
  · obtain ⟨h1, h2, h3⟩ := tgt_cpt_le hz ht
    exact cuts_walk t (cpt t) (tgt (cpt t)) w ht (cpt_lt ht) (tgt_lt _) rfl rfl hz h3 h1 h2
end Go.Proofs.Ytacgcaebolmpfaa
