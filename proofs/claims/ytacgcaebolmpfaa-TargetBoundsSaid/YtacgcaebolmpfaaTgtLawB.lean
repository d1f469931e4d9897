/- The laws' own walks: TargetTells, TargetWorks. -/
import Derived.Test.YtacgcaebolmpfaaTgtRefWork
namespace Go.Proofs.Ytacgcaebolmpfaa
open Go.RowKit
set_option linter.unusedSimpArgs false

set_option maxRecDepth 100000 in
set_option maxHeartbeats 1600000 in
theorem tells_walk (b t : Nat) (w : World) (hb : b < 2 ^ 32) (ht : t < W256) :
    Calls Try.prog 7 #[.int .u32 (b : Int), wv t] w fun e w' => e = .returned (.bool true) ∧ Below w.heap.size w w' := by
  have p1 := fun w => wexpand b w hb
  have p2 := fun w => rexpand b w hb
  have p3 := fun w => wwork b w hb
  have p4 := fun w => rwork b w hb
  have p5 := fun w => wcompact t w ht
  have p6 := fun w => rcompact t w ht
  have q1 := weql (tgt b) (tgt b) (tgt_lt b) (tgt_lt b)
  have q2 := weql (wrk (tgt b)) (wrk (tgt b)) (wrk_lt _) (wrk_lt _)
  rw [beq_self_eq_true] at q1 q2
  generalize wrk (tgt b) = x at *
  generalize tErr (tgt b) = z at *
  generalize tgt b = u at *
  generalize cpt t = c at *
  have P1 := Lib.hid p1
  have P2 := Lib.hid p2
  have P3 := Lib.hid p3
  have P4 := Lib.hid p4
  have P5 := Lib.hid p5
  have P6 := Lib.hid p6
  clear p1 p2 p3 p4 p5 p6
  have L := (St.refl w).new (wcs t) 25
  go_enter Try.func7, Try.ntmps7
  go_wp2_with fail
  refine (P1.out _).mono ?_
  rintro e' w1 ⟨rfl, hw1⟩
  replace L := (L.call hw1).new (wcs u) 25
  clear hw1
  go_wp2_with fail
  refine (P2.out _).mono ?_
  rintro e' w2 ⟨rfl, hw2⟩
  replace L := (L.call hw2).new (wcs u) 25
  clear hw2
  go_wp2_with fail
  refine (P3.out _).mono ?_
  rintro e' w3 ⟨rfl, hw3⟩
  replace L := (L.call hw3).new (wcs x) 25
  clear hw3
  go_wp2_with fail
  refine (P4.out _).mono ?_
  rintro e' w4 ⟨rfl, hw4⟩
  replace L := (L.call hw4).new (wcs x) 25
  clear hw4
  go_upto_region 5 with fail
  generalize hg : w4.alloc (.cells #[.int .u64 (wd x 0), .int .u64 (wd x 1), .int .u64 (wd x 2), .int .u64 (wd x 3)] 25) = v at *
  clear hg
  generalize w4.heap.size = g4 at *
  generalize w3.heap.size = g3 at *
  generalize w2.heap.size = g2 at *
  generalize w1.heap.size = g1 at *
  have B4x0 := L.at (b := g4) (c := wcs x) (t := 25) (by simp)
  have c4x0 := B4x0.cell
  have l4x0 := B4x0.lt
  have B4x1 := L.at (b := g3) (c := wcs x) (t := 25) (by simp)
  have c4x1 := B4x1.cell
  have l4x1 := B4x1.lt
  have B4x2 := L.at (b := g2) (c := wcs u) (t := 25) (by simp)
  have c4x2 := B4x2.cell
  have l4x2 := B4x2.lt
  have B4x3 := L.at (b := g1) (c := wcs u) (t := 25) (by simp)
  have c4x3 := B4x3.cell
  have l4x3 := B4x3.lt
  have B4x4 := L.at (b := w.heap.size) (c := wcs t) (t := 25) (by simp)
  have c4x4 := B4x4.cell
  have l4x4 := B4x4.lt
  refine wp_region_held_drew (S := fun w' => Below v.heap.size v w' ∧ (∀ b o, b < v.heap.size → w'.cell? ⟨b, o, none⟩ = v.cell? ⟨b, o, none⟩)) (by kernel_rfl) (SK.start v) (fun hS => ?_)
  refine wpAnyH_take (i := 0) (oi := ⟨_, _, _, _, _, _⟩) (v := ?_) rfl (by kernel_rfl) (by kernel_rfl) (by kernel_rfl) (fun _ _ _ h => h) (Or.inl ⟨by rfl, ?_⟩) hS ?_
  rotate_left
  · intro w0 hs; obtain ⟨s1, s2⟩ := hs; go_simp; try (with_reducible rfl)
  try simp only [Act.put, List.setIfInBounds_toArray, List.set_cons_zero, List.set_cons_succ]
  refine wpAnyH_take (i := 1) (oi := ⟨_, _, _, _, _, _⟩) (v := ?_) rfl (by kernel_rfl) (by kernel_rfl) (by kernel_rfl) (fun _ _ _ h => h) (Or.inl ⟨by rfl, ?_⟩) hS ?_
  rotate_left
  · intro w0 hs; obtain ⟨s1, s2⟩ := hs; go_simp; try (with_reducible rfl)
  try simp only [Act.put, List.setIfInBounds_toArray, List.set_cons_zero, List.set_cons_succ]
  refine wpAnyH_take (i := 2) (oi := ⟨_, _, _, _, _, _⟩) (v := ?_) rfl (by kernel_rfl) (by kernel_rfl) (by kernel_rfl) (fun _ _ _ h => h) (Or.inl ⟨by rfl, ?_⟩) hS ?_
  rotate_left
  · intro w0 hs; obtain ⟨s1, s2⟩ := hs; go_simp; try (with_reducible rfl)
  try simp only [Act.put, List.setIfInBounds_toArray, List.set_cons_zero, List.set_cons_succ]
  refine wpAnyH_take (i := 3) (oi := ⟨_, _, _, _, _, _⟩) (v := ?_) rfl (by kernel_rfl) (by kernel_rfl) (by kernel_rfl) (fun _ _ _ h => h) (Or.inl ⟨by rfl, ?_⟩) hS ?_
  rotate_left
  · intro w0 hs; obtain ⟨s1, s2⟩ := hs; go_simp; try (with_reducible rfl)
  try simp only [Act.put, List.setIfInBounds_toArray, List.set_cons_zero, List.set_cons_succ]
  refine wpAnyH_take (i := 4) (oi := ⟨_, _, _, _, _, _⟩) (v := ?_) rfl (by kernel_rfl) (by kernel_rfl) (by kernel_rfl) (fun _ _ _ h => h) (Or.inl ⟨by rfl, ?_⟩) hS ?_
  rotate_left
  · intro w0 hs; obtain ⟨s1, s2⟩ := hs; go_simp; try (with_reducible rfl)
  try simp only [Act.put, List.setIfInBounds_toArray, List.set_cons_zero, List.set_cons_succ]
  refine wpAnyH_take (i := 5) (oi := ⟨_, _, _, _, _, _⟩) (v := ?_) rfl (by kernel_rfl) (by kernel_rfl) (by kernel_rfl) (fun _ _ _ h => h) (Or.inl ⟨by rfl, ?_⟩) hS ?_
  rotate_left
  · intro w0 hs; obtain ⟨s1, s2⟩ := hs; go_simp; try (with_reducible rfl)
  try simp only [Act.put, List.setIfInBounds_toArray, List.set_cons_zero, List.set_cons_succ]
  refine wpAnyH_take (i := 6) (oi := ⟨_, _, _, _, _, _⟩) (v := ?_) rfl (by kernel_rfl) (by kernel_rfl) (by kernel_rfl) (fun _ _ _ h => h) (Or.inl ⟨by rfl, ?_⟩) hS ?_
  rotate_left
  · intro w0 hs; obtain ⟨s1, s2⟩ := hs; go_simp; try (with_reducible rfl)
  try simp only [Act.put, List.setIfInBounds_toArray, List.set_cons_zero, List.set_cons_succ]
  refine wpAnyH_take (i := 7) (oi := ⟨_, _, _, _, _, _⟩) (v := ?_) rfl (by kernel_rfl) (by kernel_rfl) (by kernel_rfl) (fun _ _ _ h => h) (Or.inl ⟨by rfl, ?_⟩) hS ?_
  rotate_left
  · intro w0 hs; obtain ⟨s1, s2⟩ := hs; go_simp; try (with_reducible rfl)
  try simp only [Act.put, List.setIfInBounds_toArray, List.set_cons_zero, List.set_cons_succ]
  refine wpAnyH_take (i := 8) (oi := ⟨_, _, _, _, _, _⟩) (v := ?_) rfl (by kernel_rfl) (by kernel_rfl) (by kernel_rfl) (fun _ _ _ h => h) (Or.inl ⟨by rfl, ?_⟩) hS ?_
  rotate_left
  · intro w0 hs; obtain ⟨s1, s2⟩ := hs; go_simp; try (with_reducible rfl)
  try simp only [Act.put, List.setIfInBounds_toArray, List.set_cons_zero, List.set_cons_succ]
  refine wpAnyH_take (i := 9) (oi := ⟨_, _, _, _, _, _⟩) (v := ?_) rfl (by kernel_rfl) (by kernel_rfl) (by kernel_rfl) (fun _ _ _ h => h) (Or.inl ⟨by rfl, ?_⟩) hS ?_
  rotate_left
  · intro w0 hs; obtain ⟨s1, s2⟩ := hs; go_simp; try (with_reducible rfl)
  try simp only [Act.put, List.setIfInBounds_toArray, List.set_cons_zero, List.set_cons_succ]
  refine wpAnyH_take (i := 10) (oi := ⟨_, _, _, _, _, _⟩) (v := ?_) rfl (by kernel_rfl) (by kernel_rfl) (by kernel_rfl) (fun _ _ _ h => h) (Or.inl ⟨by rfl, ?_⟩) hS ?_
  rotate_left
  · intro w0 hs; obtain ⟨s1, s2⟩ := hs; go_simp; try (with_reducible rfl)
  try simp only [Act.put, List.setIfInBounds_toArray, List.set_cons_zero, List.set_cons_succ]
  refine wpAnyH_take (i := 11) (oi := ⟨_, _, _, _, _, _⟩) (v := ?_) rfl (by kernel_rfl) (by kernel_rfl) (by kernel_rfl) (fun _ _ _ h => h) (Or.inl ⟨by rfl, ?_⟩) hS ?_
  rotate_left
  · intro w0 hs; obtain ⟨s1, s2⟩ := hs; go_simp; try (with_reducible rfl)
  try simp only [Act.put, List.setIfInBounds_toArray, List.set_cons_zero, List.set_cons_succ]
  refine wpAnyH_take (i := 12) (oi := ⟨_, _, _, _, _, _⟩) (v := ?_) rfl (by kernel_rfl) (by kernel_rfl) (by kernel_rfl) (fun _ _ _ h => h) (Or.inl ⟨by rfl, ?_⟩) hS ?_
  rotate_left
  · intro w0 hs; obtain ⟨s1, s2⟩ := hs; go_simp; try (with_reducible rfl)
  try simp only [Act.put, List.setIfInBounds_toArray, List.set_cons_zero, List.set_cons_succ]
  refine wpAnyH_take (i := 13) (oi := ⟨_, _, _, _, _, _⟩) (v := ?_) rfl (by kernel_rfl) (by kernel_rfl) (by kernel_rfl) (fun _ _ _ h => h) (Or.inl ⟨by rfl, ?_⟩) hS ?_
  rotate_left
  · intro w0 hs; obtain ⟨s1, s2⟩ := hs; go_simp; try (with_reducible rfl)
  try simp only [Act.put, List.setIfInBounds_toArray, List.set_cons_zero, List.set_cons_succ]
  as_aux_lemma =>
    refine wpAnyH_take (i := 14) (oi := ⟨_, _, _, _, _, _⟩) (v := ?_) rfl (by kernel_rfl) (by kernel_rfl) (by kernel_rfl) (fun _ _ _ h => h) (Or.inl ⟨by rfl, ?_⟩) hS ?_
    rotate_left
    · intro w0 hs; obtain ⟨s1, s2⟩ := hs; go_simp; try (with_reducible rfl)
    try simp only [Act.put, List.setIfInBounds_toArray, List.set_cons_zero, List.set_cons_succ]
    refine wpAnyH_take (i := 15) (oi := ⟨_, _, _, _, _, _⟩) (v := ?_) rfl (by kernel_rfl) (by kernel_rfl) (by kernel_rfl) (fun _ _ _ h => h) (Or.inl ⟨by rfl, ?_⟩) hS ?_
    rotate_left
    · intro w0 hs; obtain ⟨s1, s2⟩ := hs; go_simp; try (with_reducible rfl)
    try simp only [Act.put, List.setIfInBounds_toArray, List.set_cons_zero, List.set_cons_succ]
    refine wpAnyH_take (i := 16) (oi := ⟨_, _, _, _, _, _⟩) (v := ?_) rfl (by kernel_rfl) (by kernel_rfl) (by kernel_rfl) (fun _ _ _ h => h) (Or.inl ⟨by rfl, ?_⟩) hS ?_
    rotate_left
    · intro w0 hs; obtain ⟨s1, s2⟩ := hs; go_simp; try (with_reducible rfl)
    try simp only [Act.put, List.setIfInBounds_toArray, List.set_cons_zero, List.set_cons_succ]
    refine wpAnyH_take (i := 17) (oi := ⟨_, _, _, _, _, _⟩) (v := ?_) rfl (by kernel_rfl) (by kernel_rfl) (by kernel_rfl) (fun _ _ _ h => h) (Or.inl ⟨by rfl, ?_⟩) hS ?_
    rotate_left
    · intro w0 hs; obtain ⟨s1, s2⟩ := hs; go_simp; try (with_reducible rfl)
    try simp only [Act.put, List.setIfInBounds_toArray, List.set_cons_zero, List.set_cons_succ]
    refine wpAnyH_take (i := 18) (oi := ⟨_, _, _, _, _, _⟩) (v := ?_) rfl (by kernel_rfl) (by kernel_rfl) (by kernel_rfl) (fun _ _ _ h => h) (Or.inl ⟨by rfl, ?_⟩) hS ?_
    rotate_left
    · intro w0 hs; obtain ⟨s1, s2⟩ := hs; go_simp; try (with_reducible rfl)
    try simp only [Act.put, List.setIfInBounds_toArray, List.set_cons_zero, List.set_cons_succ]
    refine wpAnyH_take (i := 19) (oi := ⟨_, _, _, _, _, _⟩) (v := ?_) rfl (by kernel_rfl) (by kernel_rfl) (by kernel_rfl) (fun _ _ _ h => h) (Or.inl ⟨by rfl, ?_⟩) hS ?_
    rotate_left
    · intro w0 hs; obtain ⟨s1, s2⟩ := hs; go_simp; try (with_reducible rfl)
    try simp only [Act.put, List.setIfInBounds_toArray, List.set_cons_zero, List.set_cons_succ]
    refine wpAnyH_take (i := 21) (oi := ⟨_, _, _, _, _, _⟩) (v := ?_) rfl (by kernel_rfl) (by kernel_rfl) (by kernel_rfl) (fun _ _ _ h => h) (Or.inl ⟨by rfl, ?_⟩) hS ?_
    rotate_left
    · intro w0 hs; obtain ⟨s1, s2⟩ := hs; go_simp; try (with_reducible rfl)
    try simp only [Act.put, List.setIfInBounds_toArray, List.set_cons_zero, List.set_cons_succ]
    refine wpAnyH_ready (rs := [20]) (by kernel_rfl) (by simp) ?_
    refine AllReadyH.cons (o := ⟨_, _, _, _, _, _⟩) rfl (fun K hK => ?_) AllReadyH.nil
    rw [if_pos (by rfl)]
    go_step
    refine (P5.out _).mono ?_
    rintro e w1 ⟨rfl, hw1⟩
    simp only []
    refine hK.out _ _ (SK.keep hS hw1) (fun hS' => ?_)
    clear hS hK
    have hS := hS'; clear hS'
    try simp only [Act.put, List.setIfInBounds_toArray, List.set_cons_zero, List.set_cons_succ]
    refine wpAnyH_ready (rs := [22]) (by kernel_rfl) (by simp) ?_
    refine AllReadyH.cons (o := ⟨_, _, _, _, _, _⟩) rfl (fun K hK => ?_) AllReadyH.nil
    rw [if_pos (by rfl)]
    go_step
    refine (P6.out _).mono ?_
    rintro e w2 ⟨rfl, hw2⟩
    simp only []
    refine hK.out _ _ (SK.keep hS hw2) (fun hS' => ?_)
    clear hS hK
    have hS := hS'; clear hS'
    try simp only [Act.put, List.setIfInBounds_toArray, List.set_cons_zero, List.set_cons_succ]
    refine wpAnyH_take (i := 23) (oi := ⟨_, _, _, _, _, _⟩) (v := ?_) rfl (by kernel_rfl) (by kernel_rfl) (by kernel_rfl) (fun _ _ _ h => h) (Or.inl ⟨by rfl, ?_⟩) hS ?_
    rotate_left
    · intro w0 hs; obtain ⟨s1, s2⟩ := hs; go_simp; try (with_reducible rfl)
    try simp only [Act.put, List.setIfInBounds_toArray, List.set_cons_zero, List.set_cons_succ]
    refine wpAnyH_take (i := 24) (oi := ⟨_, _, _, _, _, _⟩) (v := ?_) rfl (by kernel_rfl) (by kernel_rfl) (by kernel_rfl) (fun _ _ _ h => h) (Or.inl ⟨by rfl, ?_⟩) hS ?_
    rotate_left
    · intro w0 hs; obtain ⟨s1, s2⟩ := hs; go_simp; try (with_reducible rfl)
    try simp only [Act.put, List.setIfInBounds_toArray, List.set_cons_zero, List.set_cons_succ]
    refine wpAnyH_take (i := 25) (oi := ⟨_, _, _, _, _, _⟩) (v := ?_) rfl (by kernel_rfl) (by kernel_rfl) (by kernel_rfl) (fun _ _ _ h => h) (Or.inl ⟨by rfl, ?_⟩) hS ?_
    rotate_left
    · intro w0 hs; obtain ⟨s1, s2⟩ := hs; go_simp; try (with_reducible rfl)
    try simp only [Act.put, List.setIfInBounds_toArray, List.set_cons_zero, List.set_cons_succ]
    refine wpAnyH_ready (rs := [26]) (by kernel_rfl) (by simp) ?_
    refine AllReadyH.cons (o := ⟨_, _, _, _, _, _⟩) rfl (fun K hK => ?_) AllReadyH.nil
    rw [if_pos (by rfl)]
    go_step
    refine (awake_any _).mono ?_
    rintro e w3 ⟨rfl, hw3⟩
    simp only []
    refine hK.out _ _ (SK.keep hS hw3) (fun hS' => ?_)
    clear hS hK
    have hS := hS'; clear hS'
    try simp only [Act.put, List.setIfInBounds_toArray, List.set_cons_zero, List.set_cons_succ]
    refine wpAnyH_take (i := 27) (oi := ⟨_, _, _, _, _, _⟩) (v := ?_) rfl (by kernel_rfl) (by kernel_rfl) (by kernel_rfl) (fun _ _ _ h => h) (Or.inl ⟨by rfl, ?_⟩) hS ?_
    rotate_left
    · intro w0 hs; obtain ⟨s1, s2⟩ := hs; go_simp; try (with_reducible rfl)
    try simp only [Act.put, List.setIfInBounds_toArray, List.set_cons_zero, List.set_cons_succ]
    as_aux_lemma =>
      refine wpAnyH_take (i := 28) (oi := ⟨_, _, _, _, _, _⟩) (v := ?_) rfl (by kernel_rfl) (by kernel_rfl) (by kernel_rfl) (fun _ _ _ h => h) (Or.inl ⟨by rfl, ?_⟩) hS ?_
      rotate_left
      · intro w0 hs; obtain ⟨s1, s2⟩ := hs; go_simp; try (with_reducible rfl)
      try simp only [Act.put, List.setIfInBounds_toArray, List.set_cons_zero, List.set_cons_succ]
      refine wpAnyH_done (by kernel_rfl) ?_ _
      replace L := L.call hS.1
      go_wp2
      go_ret
      exact ⟨rfl, L.below⟩
theorem tells_any (a : Int) (t : Nat) (w : World) (ha : (Lit.int .u32 a).wf = true) (ht : t < W256) :
    Calls Try.prog 7 #[.int .u32 a, wv t] w fun e w' => e = .returned (.bool true) ∧ Below w.heap.size w w' := by
  obtain ⟨h0, h1⟩ := bounds_u32 ha
  obtain ⟨b, rfl⟩ := Int.eq_ofNat_of_zero_le h0
  exact tells_walk b t w (by omega) ht

set_option maxRecDepth 100000 in
set_option maxHeartbeats 1600000 in
theorem works_bad (a b : Nat) (w : World) (ha : a < 2 ^ 32) (hb : b < 2 ^ 32) (h : tgt a = 0 ∨ tgt b = 0) :
    Calls Try.prog 6 #[.int .u32 (a : Int), .int .u32 (b : Int)] w fun e w' => e = .returned (.bool true) ∧ Below w.heap.size w w' := by
  have p1 := fun w => wexpand a w ha
  have p2 := fun w => wexpand b w hb
  have p3 := fun w => rexpand a w ha
  have p4 := fun w => rexpand b w hb
  have P5 := Lib.hid awake_any
  have L := St.refl w
  generalize tgt a = t at *
  generalize tgt b = u at *
  by_cases h0 : t = 0
  · rw [show tErr t = 40 from if_pos h0] at p1 p3
    generalize tErr u = z at *
    have P1 := Lib.hid p1
    have P2 := Lib.hid p2
    have P3 := Lib.hid p3
    have P4 := Lib.hid p4
    clear p1 p2 p3 p4 h h0
    go_enter Try.func6, Try.ntmps6
    go_wp2_with fail
    refine (P1.out _).mono ?_
    rintro e' w1 ⟨rfl, hw1⟩
    replace L := (L.call hw1).new (wcs t) 25
    clear hw1
    go_wp2_with fail
    refine (P2.out _).mono ?_
    rintro e' w2 ⟨rfl, hw2⟩
    replace L := (L.call hw2).new (wcs u) 25
    clear hw2
    go_wp2_with fail
    refine (P3.out _).mono ?_
    rintro e' w3 ⟨rfl, hw3⟩
    replace L := (L.call hw3).new (wcs t) 25
    clear hw3
    go_wp2_with fail
    refine (P4.out _).mono ?_
    rintro e' w4 ⟨rfl, hw4⟩
    replace L := (L.call hw4).new (wcs u) 25
    clear hw4
    go_wp2_with fail
    refine (P5.out _).mono ?_
    rintro e' w5 ⟨rfl, hw5⟩
    replace L := L.call hw5
    clear hw5
    go_wp2_with fail
    go_ret
    exact ⟨rfl, L.below⟩
  · have h1 : u = 0 := by omega
    rw [show tErr t = 0 from if_neg h0] at p1 p3
    rw [show tErr u = 40 from if_pos h1] at p2 p4
    have P1 := Lib.hid p1
    have P2 := Lib.hid p2
    have P3 := Lib.hid p3
    have P4 := Lib.hid p4
    clear p1 p2 p3 p4 h h0 h1
    go_enter Try.func6, Try.ntmps6
    go_wp2_with fail
    refine (P1.out _).mono ?_
    rintro e' w1 ⟨rfl, hw1⟩
    replace L := (L.call hw1).new (wcs t) 25
    clear hw1
    go_wp2_with fail
    refine (P2.out _).mono ?_
    rintro e' w2 ⟨rfl, hw2⟩
    replace L := (L.call hw2).new (wcs u) 25
    clear hw2
    go_wp2_with fail
    refine (P3.out _).mono ?_
    rintro e' w3 ⟨rfl, hw3⟩
    replace L := (L.call hw3).new (wcs t) 25
    clear hw3
    go_wp2_with fail
    refine (P4.out _).mono ?_
    rintro e' w4 ⟨rfl, hw4⟩
    replace L := (L.call hw4).new (wcs u) 25
    clear hw4
    go_wp2_with fail
    refine (P5.out _).mono ?_
    rintro e' w5 ⟨rfl, hw5⟩
    replace L := L.call hw5
    clear hw5
    go_wp2_with fail
    go_ret
    exact ⟨rfl, L.below⟩

set_option maxRecDepth 100000 in
set_option maxHeartbeats 1600000 in
theorem works_good (a b : Nat) (w : World) (ha : a < 2 ^ 32) (hb : b < 2 ^ 32) (h0 : tgt a ≠ 0) (h1 : tgt b ≠ 0) :
    Calls Try.prog 6 #[.int .u32 (a : Int), .int .u32 (b : Int)] w fun e w' => e = .returned (.bool true) ∧ Below w.heap.size w w' := by
  have p1 := fun w => wexpand a w ha
  have p2 := fun w => wexpand b w hb
  have p3 := fun w => wwork a w ha
  have p4 := fun w => wwork b w hb
  have p5 := fun w => rcmp (tgt a) (tgt b) w (tgt_lt a) (tgt_lt b)
  have p6 := fun w => rcmp (wrk (tgt a)) (wrk (tgt b)) w (wrk_lt _) (wrk_lt _)
  have q0 := weql (wrk (tgt a)) 0 (wrk_lt _) W_pos
  rw [wv_zero, show (wrk (tgt a) == 0) = false from by rw [wrk_pos h0]; simp] at q0
  rw [tErr_pos h0] at p1 p3
  rw [tErr_pos h1] at p2 p4
  have hm : tgt a ≤ tgt b → wrk (tgt b) ≤ wrk (tgt a) := fun hle => by rw [wrk_pos h0, wrk_pos h1]; have := wrk_mono hle (tgt_lt b); omega
  generalize wrk (tgt a) = x at *
  generalize wrk (tgt b) = y at *
  generalize tgt a = t at *
  generalize tgt b = u at *
  have L := St.refl w
  by_cases hc : u < t
  · have hz : (0 : Int) < cmpN t u := by unfold cmpN; rw [if_neg (by omega), if_pos hc]; decide
    generalize cmpN t u = z at *
    have P1 := Lib.hid p1
    have P2 := Lib.hid p2
    have P3 := Lib.hid p3
    have P4 := Lib.hid p4
    have P5 := Lib.hid p5
    clear p1 p2 p3 p4 p5 p6 h0 h1 hm hc
    go_enter Try.func6, Try.ntmps6
    go_wp2_with fail
    refine (P1.out _).mono ?_
    rintro e' w1 ⟨rfl, hw1⟩
    replace L := (L.call hw1).new (wcs t) 25
    clear hw1
    go_wp2_with fail
    refine (P2.out _).mono ?_
    rintro e' w2 ⟨rfl, hw2⟩
    replace L := (L.call hw2).new (wcs u) 25
    clear hw2
    go_wp2_with fail
    refine (P3.out _).mono ?_
    rintro e' w3 ⟨rfl, hw3⟩
    replace L := (L.call hw3).new (wcs x) 25
    clear hw3
    go_wp2_with fail
    refine (P4.out _).mono ?_
    rintro e' w4 ⟨rfl, hw4⟩
    replace L := (L.call hw4).new (wcs y) 25
    clear hw4
    go_upto_region 9 with fail
    generalize hg : w4.alloc (.cells #[.int .u64 (wd y 0), .int .u64 (wd y 1), .int .u64 (wd y 2), .int .u64 (wd y 3)] 25) = v at *
    clear hg
    generalize w4.heap.size = g4 at *
    generalize w3.heap.size = g3 at *
    generalize w2.heap.size = g2 at *
    generalize w1.heap.size = g1 at *
    have B4x0 := L.at (b := g4) (c := wcs y) (t := 25) (by simp)
    have c4x0 := B4x0.cell
    have l4x0 := B4x0.lt
    have B4x1 := L.at (b := g3) (c := wcs x) (t := 25) (by simp)
    have c4x1 := B4x1.cell
    have l4x1 := B4x1.lt
    have B4x2 := L.at (b := g2) (c := wcs u) (t := 25) (by simp)
    have c4x2 := B4x2.cell
    have l4x2 := B4x2.lt
    have B4x3 := L.at (b := g1) (c := wcs t) (t := 25) (by simp)
    have c4x3 := B4x3.cell
    have l4x3 := B4x3.lt
    go_wp2_with fail
    refine (P5.out _).mono ?_
    rintro e' w5 ⟨rfl, hw5⟩
    clear B4x0 c4x0 l4x0 B4x1 c4x1 l4x1 B4x2 c4x2 l4x2 B4x3 c4x3 l4x3
    replace L := L.call hw5
    clear hw5
    go_wp2_with fail
    go_ret
    exact ⟨rfl, L.below⟩
  · have hz : ¬ (0 : Int) < cmpN t u := by unfold cmpN; split <;> first | decide | (rw [if_neg hc]; decide)
    have hy : (0 : Int) ≤ cmpN x y := by have := hm (by omega); unfold cmpN; rw [if_neg (by omega)]; split <;> decide
    generalize cmpN t u = z at *
    generalize cmpN x y = z2 at *
    have P1 := Lib.hid p1
    have P2 := Lib.hid p2
    have P3 := Lib.hid p3
    have P4 := Lib.hid p4
    have P5 := Lib.hid p5
    have P6 := Lib.hid p6
    clear p1 p2 p3 p4 p5 p6 h0 h1 hm hc
    go_enter Try.func6, Try.ntmps6
    go_wp2_with fail
    refine (P1.out _).mono ?_
    rintro e' w1 ⟨rfl, hw1⟩
    replace L := (L.call hw1).new (wcs t) 25
    clear hw1
    go_wp2_with fail
    refine (P2.out _).mono ?_
    rintro e' w2 ⟨rfl, hw2⟩
    replace L := (L.call hw2).new (wcs u) 25
    clear hw2
    go_wp2_with fail
    refine (P3.out _).mono ?_
    rintro e' w3 ⟨rfl, hw3⟩
    replace L := (L.call hw3).new (wcs x) 25
    clear hw3
    go_wp2_with fail
    refine (P4.out _).mono ?_
    rintro e' w4 ⟨rfl, hw4⟩
    replace L := (L.call hw4).new (wcs y) 25
    clear hw4
    go_upto_region 9 with fail
    generalize hg : w4.alloc (.cells #[.int .u64 (wd y 0), .int .u64 (wd y 1), .int .u64 (wd y 2), .int .u64 (wd y 3)] 25) = v at *
    clear hg
    generalize w4.heap.size = g4 at *
    generalize w3.heap.size = g3 at *
    generalize w2.heap.size = g2 at *
    generalize w1.heap.size = g1 at *
    have B4x0 := L.at (b := g4) (c := wcs y) (t := 25) (by simp)
    have c4x0 := B4x0.cell
    have l4x0 := B4x0.lt
    have B4x1 := L.at (b := g3) (c := wcs x) (t := 25) (by simp)
    have c4x1 := B4x1.cell
    have l4x1 := B4x1.lt
    have B4x2 := L.at (b := g2) (c := wcs u) (t := 25) (by simp)
    have c4x2 := B4x2.cell
    have l4x2 := B4x2.lt
    have B4x3 := L.at (b := g1) (c := wcs t) (t := 25) (by simp)
    have c4x3 := B4x3.cell
    have l4x3 := B4x3.lt
    go_wp2_with fail
    refine (P5.out _).mono ?_
    rintro e' w5 ⟨rfl, hw5⟩
    clear B4x0 c4x0 l4x0 B4x1 c4x1 l4x1 B4x2 c4x2 l4x2 B4x3 c4x3 l4x3
    replace L := L.call hw5
    clear hw5
    have B5x0 := L.at (b := g4) (c := wcs y) (t := 25) (by simp)
    have c5x0 := B5x0.cell
    have l5x0 := B5x0.lt
    have B5x1 := L.at (b := g3) (c := wcs x) (t := 25) (by simp)
    have c5x1 := B5x1.cell
    have l5x1 := B5x1.lt
    go_wp2_with fail
    refine (P6.out _).mono ?_
    rintro e' w6 ⟨rfl, hw6⟩
    clear B5x0 c5x0 l5x0 B5x1 c5x1 l5x1
    replace L := L.call hw6
    clear hw6
    go_wp2_with fail
    go_ret
    exact ⟨rfl, L.below⟩

theorem works_any (a b : Int) (w : World) (ha : (Lit.int .u32 a).wf = true) (hb : (Lit.int .u32 b).wf = true) :
    Calls Try.prog 6 #[.int .u32 a, .int .u32 b] w fun e w' => e = .returned (.bool true) ∧ Below w.heap.size w w' := by
  obtain ⟨h0, h1⟩ := bounds_u32 ha
  obtain ⟨a, rfl⟩ := Int.eq_ofNat_of_zero_le h0
  obtain ⟨h2, h3⟩ := bounds_u32 hb
  obtain ⟨b, rfl⟩ := Int.eq_ofNat_of_zero_le h2
  by_cases h : tgt a = 0 ∨ tgt b = 0
  · exact works_bad a b w (by omega) (by omega) h
  · exact works_good a b w (by omega) (by omega) (fun e => h (.inl e)) (fun e => h (.inr e))
end Go.Proofs.Ytacgcaebolmpfaa
