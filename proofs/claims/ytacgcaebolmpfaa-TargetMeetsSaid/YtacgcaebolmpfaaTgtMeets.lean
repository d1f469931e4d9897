/- The walks of layer 4's Meets, and the law TargetMeets. -/
import Derived.Test.YtacgcaebolmpfaaTgtLawA
import Derived.Test.YtacgcaebolmpfaaHashEq
import Derived.Test.YtacgcaebolmpfaaSR
namespace Go.Proofs.Ytacgcaebolmpfaa
open Go.RowKit
set_option linter.unusedSimpArgs false

def meetsB (h b : Nat) : Bool := if tgt b = 0 then false else decide (h ≤ tgt b)
theorem meets_def (h b : Nat) : meetsB h b = if tgt b = 0 then false else decide (h ≤ tgt b) := rfl
theorem cmp_leq (h t : Nat) : decide (h ≤ t) = decide (cmpN h t ≤ 0) := by
  rw [decide_eq_decide]; unfold cmpN; split
  · omega
  · split <;> omega

set_option maxRecDepth 100000 in
set_option maxHeartbeats 800000 in
theorem wmeets (h b : Nat) (w : World) (hh : h < W256) (hb : b < 2 ^ 32) :
    Calls Try.prog 16 #[hv h, .int .u32 (b : Int)] w fun e w' => e = .returned (.bool (meetsB h b)) ∧ Below w.heap.size w w' := by
  have p1 := fun w => wexpand b w hb
  have p2 := fun w => wof h w hh
  have p3 := fun w => wcmp h (tgt b) w hh (tgt_lt b)
  have ht := tgt_lt b
  have hM := Lib.hid (meets_def h b)
  have hu : Try.prog.underlying 36 = some (.array 32 5) := Try.underlying36
  have hi : (Try.prog.info? 36).map (·.size) = some (hls h).length := by rw [hls_length]; kernel_rfl
  have hc := cmp_leq h (tgt b)
  generalize tgt b = t at *
  generalize meetsB h b = mb at *
  generalize cmpN h t = z at *
  have P2 := Lib.hid p2
  have P3 := Lib.hid p3
  clear p2 p3
  have L := (St.refl w).new (hcs h) 36
  by_cases hz : t = 0
  · rw [show tErr t = 40 from if_pos hz] at p1
    have P1 := Lib.hid p1
    have HM := Lib.hid (hM.out.trans (if_pos hz))
    clear p1 hz hM hc
    go_enter Try.func16, Try.ntmps16
    go_wp2_with fail
    refine (P1.out _).mono ?_
    rintro e' w1 ⟨rfl, hw1⟩
    replace L := (L.call hw1).new (wcs t) 25
    clear hw1
    go_upto_region 2 with fail
    generalize hg : w1.alloc (.cells #[.int .u64 (wd t 0), .int .u64 (wd t 1), .int .u64 (wd t 2), .int .u64 (wd t 3)] 25) = v at *
    clear hg
    refine wp_region_held_drew (S := fun w' => Below v.heap.size v w') (by kernel_rfl) (Below.refl _ _).drew (fun hS => ?_)
    refine wpAnyH_take (i := 0) (oi := ⟨_, _, _, _, _, _⟩) (v := ?_) rfl (by kernel_rfl) (by kernel_rfl) (by kernel_rfl) (fun _ _ _ h => h) (Or.inl ⟨by rfl, ?_⟩) hS ?_
    rotate_left
    · intro w0 hs; skip; go_simp; try (with_reducible rfl)
    try simp only [Act.put, List.setIfInBounds_toArray, List.set_cons_zero, List.set_cons_succ]
    refine wpAnyH_take (i := 1) (oi := ⟨_, _, _, _, _, _⟩) (v := ?_) rfl (by kernel_rfl) (by kernel_rfl) (by kernel_rfl) (fun _ _ _ h => h) (Or.inl ⟨by rfl, ?_⟩) hS ?_
    rotate_left
    · intro w0 hs; skip; go_simp; try (with_reducible rfl)
    try simp only [Act.put, List.setIfInBounds_toArray, List.set_cons_zero, List.set_cons_succ]
    refine wpAnyH_take (i := 2) (oi := ⟨_, _, _, _, _, _⟩) (v := ?_) rfl (by kernel_rfl) (by kernel_rfl) (by kernel_rfl) (fun _ _ _ h => h) (Or.inl ⟨by rfl, ?_⟩) hS ?_
    rotate_left
    · intro w0 hs; skip; go_simp; try (with_reducible rfl)
    try simp only [Act.put, List.setIfInBounds_toArray, List.set_cons_zero, List.set_cons_succ]
    refine wpAnyH_take (i := 3) (oi := ⟨_, _, _, _, _, _⟩) rfl (by kernel_rfl) (by kernel_rfl) (by kernel_rfl) (fun _ _ _ h => h) (Or.inr ⟨by rfl, rfl⟩) hS ?_
    try simp only [Act.put, List.setIfInBounds_toArray, List.set_cons_zero, List.set_cons_succ]
    refine wpAnyH_take (i := 4) (oi := ⟨_, _, _, _, _, _⟩) rfl (by kernel_rfl) (by kernel_rfl) (by kernel_rfl) (fun _ _ _ h => h) (Or.inr ⟨by rfl, rfl⟩) hS ?_
    try simp only [Act.put, List.setIfInBounds_toArray, List.set_cons_zero, List.set_cons_succ]
    refine wpAnyH_take (i := 5) (oi := ⟨_, _, _, _, _, _⟩) rfl (by kernel_rfl) (by kernel_rfl) (by kernel_rfl) (fun _ _ _ h => h) (Or.inr ⟨by rfl, rfl⟩) hS ?_
    try simp only [Act.put, List.setIfInBounds_toArray, List.set_cons_zero, List.set_cons_succ]
    refine wpAnyH_take (i := 6) (oi := ⟨_, _, _, _, _, _⟩) rfl (by kernel_rfl) (by kernel_rfl) (by kernel_rfl) (fun _ _ _ h => h) (Or.inr ⟨by rfl, rfl⟩) hS ?_
    try simp only [Act.put, List.setIfInBounds_toArray, List.set_cons_zero, List.set_cons_succ]
    refine wpAnyH_take (i := 7) (oi := ⟨_, _, _, _, _, _⟩) rfl (by kernel_rfl) (by kernel_rfl) (by kernel_rfl) (fun _ _ _ h => h) (Or.inr ⟨by rfl, rfl⟩) hS ?_
    try simp only [Act.put, List.setIfInBounds_toArray, List.set_cons_zero, List.set_cons_succ]
    refine wpAnyH_take (i := 8) (oi := ⟨_, _, _, _, _, _⟩) (v := ?_) rfl (by kernel_rfl) (by kernel_rfl) (by kernel_rfl) (fun _ _ _ h => h) (Or.inl ⟨by rfl, ?_⟩) hS ?_
    rotate_left
    · intro w0 hs; skip; go_simp; try (with_reducible rfl)
    try simp only [Act.put, List.setIfInBounds_toArray, List.set_cons_zero, List.set_cons_succ]
    refine wpAnyH_take (i := 9) (oi := ⟨_, _, _, _, _, _⟩) (v := ?_) rfl (by kernel_rfl) (by kernel_rfl) (by kernel_rfl) (fun _ _ _ h => h) (Or.inl ⟨by rfl, ?_⟩) hS ?_
    rotate_left
    · intro w0 hs; skip; go_simp; try (with_reducible rfl)
    try simp only [Act.put, List.setIfInBounds_toArray, List.set_cons_zero, List.set_cons_succ]
    refine wpAnyH_done (by kernel_rfl) ?_ _
    replace L := L.call hS
    go_wp2
    go_ret
    exact ⟨by rw [HM.out]; rfl, L.below⟩
  · rw [show tErr t = 0 from if_neg hz] at p1
    have P1 := Lib.hid p1
    have HM := Lib.hid (hM.out.trans (if_neg hz))
    clear p1 hz hM
    have HC := Lib.hid hc
    clear hc
    go_enter Try.func16, Try.ntmps16
    go_wp2_with fail
    refine (P1.out _).mono ?_
    rintro e' w1 ⟨rfl, hw1⟩
    replace L := (L.call hw1).new (wcs t) 25
    clear hw1
    go_upto_region 2 with fail
    generalize hg : w1.alloc (.cells #[.int .u64 (wd t 0), .int .u64 (wd t 1), .int .u64 (wd t 2), .int .u64 (wd t 3)] 25) = v at *
    generalize w1.heap.size = g at *
    clear hg
    obtain ⟨c1, c0, l1, l0⟩ := L.c2
    have B0 : Blk v w.heap.size (hls h).toArray 36 := L.at (b := w.heap.size) (c := hcs h) (t := 36) (by simp)
    clear c0
    refine wp_region_held_drew (S := fun w' => Below v.heap.size v w' ∧ (∀ b o, b < v.heap.size → w'.cell? ⟨b, o, none⟩ = v.cell? ⟨b, o, none⟩) ∧ w'.rangeAt w.heap.size 0 (hls h)) (by kernel_rfl) (SR.start B0) (fun hS => ?_)
    refine wpAnyH_take (i := 0) (oi := ⟨_, _, _, _, _, _⟩) (v := ?_) rfl (by kernel_rfl) (by kernel_rfl) (by kernel_rfl) (fun _ _ _ h => h) (Or.inl ⟨by rfl, ?_⟩) hS ?_
    rotate_left
    · intro w0 hs; obtain ⟨s1, s2, s3⟩ := hs; go_simp; try (with_reducible rfl)
    try simp only [Act.put, List.setIfInBounds_toArray, List.set_cons_zero, List.set_cons_succ]
    refine wpAnyH_take (i := 1) (oi := ⟨_, _, _, _, _, _⟩) (v := ?_) rfl (by kernel_rfl) (by kernel_rfl) (by kernel_rfl) (fun _ _ _ h => h) (Or.inl ⟨by rfl, ?_⟩) hS ?_
    rotate_left
    · intro w0 hs; obtain ⟨s1, s2, s3⟩ := hs; go_simp; try (with_reducible rfl)
    try simp only [Act.put, List.setIfInBounds_toArray, List.set_cons_zero, List.set_cons_succ]
    refine wpAnyH_take (i := 2) (oi := ⟨_, _, _, _, _, _⟩) (v := ?_) rfl (by kernel_rfl) (by kernel_rfl) (by kernel_rfl) (fun _ _ _ h => h) (Or.inl ⟨by rfl, ?_⟩) hS ?_
    rotate_left
    · intro w0 hs; obtain ⟨s1, s2, s3⟩ := hs; go_simp; try (with_reducible rfl)
    try simp only [Act.put, List.setIfInBounds_toArray, List.set_cons_zero, List.set_cons_succ]
    refine wpAnyH_take (i := 3) (oi := ⟨_, _, _, _, _, _⟩) (v := hv h) rfl (by kernel_rfl) (by kernel_rfl) (by kernel_rfl) (fun _ _ _ h => h) (yieldsIf_load_mid (by rfl) 36 (.tmp 2) rfl w.heap.size 0 rfl (hls h) (.array 32 5) (fun _ hs => hs.2.2) hu rfl hi) hS ?_
    try simp only [Act.put, List.setIfInBounds_toArray, List.set_cons_zero, List.set_cons_succ]
    refine wpAnyH_take (i := 5) (oi := ⟨_, _, _, _, _, _⟩) (v := ?_) rfl (by kernel_rfl) (by kernel_rfl) (by kernel_rfl) (fun _ _ _ h => h) (Or.inl ⟨by rfl, ?_⟩) hS ?_
    rotate_left
    · intro w0 hs; obtain ⟨s1, s2, s3⟩ := hs; go_simp; try (with_reducible rfl)
    try simp only [Act.put, List.setIfInBounds_toArray, List.set_cons_zero, List.set_cons_succ]
    refine wpAnyH_ready (rs := [4]) (by kernel_rfl) (by simp) ?_
    refine AllReadyH.cons (o := ⟨_, _, _, _, _, _⟩) rfl (fun K hK => ?_) AllReadyH.nil
    rw [if_pos (by rfl)]
    go_step
    refine (P2.out _).mono ?_
    rintro e w1 ⟨rfl, hw1⟩
    simp only []
    refine hK.out _ _ (SR.keep hS l0 hw1) (fun hS' => ?_)
    clear hS hK
    have hS := hS'; clear hS'
    try simp only [Act.put, List.setIfInBounds_toArray, List.set_cons_zero, List.set_cons_succ]
    refine wpAnyH_ready (rs := [6]) (by kernel_rfl) (by simp) ?_
    refine AllReadyH.cons (o := ⟨_, _, _, _, _, _⟩) rfl (fun K hK => ?_) AllReadyH.nil
    rw [if_pos (by rfl)]
    go_step
    refine (P3.out _).mono ?_
    rintro e w2 ⟨rfl, hw2⟩
    simp only []
    refine hK.out _ _ (SR.keep hS l0 hw2) (fun hS' => ?_)
    clear hS hK
    have hS := hS'; clear hS'
    try simp only [Act.put, List.setIfInBounds_toArray, List.set_cons_zero, List.set_cons_succ]
    refine wpAnyH_take (i := 7) (oi := ⟨_, _, _, _, _, _⟩) (v := ?_) rfl (by kernel_rfl) (by kernel_rfl) (by kernel_rfl) (fun _ _ _ h => h) (Or.inl ⟨by rfl, ?_⟩) hS ?_
    rotate_left
    · intro w0 hs; obtain ⟨s1, s2, s3⟩ := hs; go_simp; try (with_reducible rfl)
    try simp only [Act.put, List.setIfInBounds_toArray, List.set_cons_zero, List.set_cons_succ]
    refine wpAnyH_take (i := 8) (oi := ⟨_, _, _, _, _, _⟩) (v := ?_) rfl (by kernel_rfl) (by kernel_rfl) (by kernel_rfl) (fun _ _ _ h => h) (Or.inl ⟨by rfl, ?_⟩) hS ?_
    rotate_left
    · intro w0 hs; obtain ⟨s1, s2, s3⟩ := hs; go_simp; try (with_reducible rfl)
    try simp only [Act.put, List.setIfInBounds_toArray, List.set_cons_zero, List.set_cons_succ]
    refine wpAnyH_take (i := 9) (oi := ⟨_, _, _, _, _, _⟩) (v := ?_) rfl (by kernel_rfl) (by kernel_rfl) (by kernel_rfl) (fun _ _ _ h => h) (Or.inl ⟨by rfl, ?_⟩) hS ?_
    rotate_left
    · intro w0 hs; obtain ⟨s1, s2, s3⟩ := hs; go_simp; try (with_reducible rfl)
    try simp only [Act.put, List.setIfInBounds_toArray, List.set_cons_zero, List.set_cons_succ]
    refine wpAnyH_done (by kernel_rfl) ?_ _
    replace L := L.call hS.1
    go_wp2
    go_ret
    exact ⟨by rw [HM.out, HC.out]; rfl, L.below⟩

set_option maxRecDepth 100000 in
set_option maxHeartbeats 800000 in
theorem rmeets (h b : Nat) (w : World) (hh : h < W256) (hb : b < 2 ^ 32) :
    Calls Try.prog 17 #[hv h, .int .u32 (b : Int)] w fun e w' => e = .returned (.bool (meetsB h b)) ∧ Below w.heap.size w w' := by
  have p1 := fun w => rexpand b w hb
  have p2 := fun w => rof h w hh
  have p3 := fun w => rcmp h (tgt b) w hh (tgt_lt b)
  have ht := tgt_lt b
  have hM := Lib.hid (meets_def h b)
  have hu : Try.prog.underlying 36 = some (.array 32 5) := Try.underlying36
  have hi : (Try.prog.info? 36).map (·.size) = some (hls h).length := by rw [hls_length]; kernel_rfl
  have hc := cmp_leq h (tgt b)
  generalize tgt b = t at *
  generalize meetsB h b = mb at *
  generalize cmpN h t = z at *
  have P2 := Lib.hid p2
  have P3 := Lib.hid p3
  clear p2 p3
  have L := (St.refl w).new (hcs h) 36
  by_cases hz : t = 0
  · rw [show tErr t = 40 from if_pos hz] at p1
    have P1 := Lib.hid p1
    have HM := Lib.hid (hM.out.trans (if_pos hz))
    clear p1 hz hM hc
    go_enter Try.func17, Try.ntmps17
    go_wp2_with fail
    refine (P1.out _).mono ?_
    rintro e' w1 ⟨rfl, hw1⟩
    replace L := (L.call hw1).new (wcs t) 25
    clear hw1
    go_upto_region 2 with fail
    generalize hg : w1.alloc (.cells #[.int .u64 (wd t 0), .int .u64 (wd t 1), .int .u64 (wd t 2), .int .u64 (wd t 3)] 25) = v at *
    clear hg
    refine wp_region_held_drew (S := fun w' => Below v.heap.size v w') (by kernel_rfl) (Below.refl _ _).drew (fun hS => ?_)
    refine wpAnyH_take (i := 0) (oi := ⟨_, _, _, _, _, _⟩) (v := ?_) rfl (by kernel_rfl) (by kernel_rfl) (by kernel_rfl) (fun _ _ _ h => h) (Or.inl ⟨by rfl, ?_⟩) hS ?_
    rotate_left
    · intro w0 hs; skip; go_simp; try (with_reducible rfl)
    try simp only [Act.put, List.setIfInBounds_toArray, List.set_cons_zero, List.set_cons_succ]
    refine wpAnyH_take (i := 1) (oi := ⟨_, _, _, _, _, _⟩) (v := ?_) rfl (by kernel_rfl) (by kernel_rfl) (by kernel_rfl) (fun _ _ _ h => h) (Or.inl ⟨by rfl, ?_⟩) hS ?_
    rotate_left
    · intro w0 hs; skip; go_simp; try (with_reducible rfl)
    try simp only [Act.put, List.setIfInBounds_toArray, List.set_cons_zero, List.set_cons_succ]
    refine wpAnyH_take (i := 2) (oi := ⟨_, _, _, _, _, _⟩) (v := ?_) rfl (by kernel_rfl) (by kernel_rfl) (by kernel_rfl) (fun _ _ _ h => h) (Or.inl ⟨by rfl, ?_⟩) hS ?_
    rotate_left
    · intro w0 hs; skip; go_simp; try (with_reducible rfl)
    try simp only [Act.put, List.setIfInBounds_toArray, List.set_cons_zero, List.set_cons_succ]
    refine wpAnyH_take (i := 3) (oi := ⟨_, _, _, _, _, _⟩) rfl (by kernel_rfl) (by kernel_rfl) (by kernel_rfl) (fun _ _ _ h => h) (Or.inr ⟨by rfl, rfl⟩) hS ?_
    try simp only [Act.put, List.setIfInBounds_toArray, List.set_cons_zero, List.set_cons_succ]
    refine wpAnyH_take (i := 4) (oi := ⟨_, _, _, _, _, _⟩) rfl (by kernel_rfl) (by kernel_rfl) (by kernel_rfl) (fun _ _ _ h => h) (Or.inr ⟨by rfl, rfl⟩) hS ?_
    try simp only [Act.put, List.setIfInBounds_toArray, List.set_cons_zero, List.set_cons_succ]
    refine wpAnyH_take (i := 5) (oi := ⟨_, _, _, _, _, _⟩) rfl (by kernel_rfl) (by kernel_rfl) (by kernel_rfl) (fun _ _ _ h => h) (Or.inr ⟨by rfl, rfl⟩) hS ?_
    try simp only [Act.put, List.setIfInBounds_toArray, List.set_cons_zero, List.set_cons_succ]
    refine wpAnyH_take (i := 6) (oi := ⟨_, _, _, _, _, _⟩) rfl (by kernel_rfl) (by kernel_rfl) (by kernel_rfl) (fun _ _ _ h => h) (Or.inr ⟨by rfl, rfl⟩) hS ?_
    try simp only [Act.put, List.setIfInBounds_toArray, List.set_cons_zero, List.set_cons_succ]
    refine wpAnyH_take (i := 7) (oi := ⟨_, _, _, _, _, _⟩) rfl (by kernel_rfl) (by kernel_rfl) (by kernel_rfl) (fun _ _ _ h => h) (Or.inr ⟨by rfl, rfl⟩) hS ?_
    try simp only [Act.put, List.setIfInBounds_toArray, List.set_cons_zero, List.set_cons_succ]
    refine wpAnyH_take (i := 8) (oi := ⟨_, _, _, _, _, _⟩) (v := ?_) rfl (by kernel_rfl) (by kernel_rfl) (by kernel_rfl) (fun _ _ _ h => h) (Or.inl ⟨by rfl, ?_⟩) hS ?_
    rotate_left
    · intro w0 hs; skip; go_simp; try (with_reducible rfl)
    try simp only [Act.put, List.setIfInBounds_toArray, List.set_cons_zero, List.set_cons_succ]
    refine wpAnyH_take (i := 9) (oi := ⟨_, _, _, _, _, _⟩) (v := ?_) rfl (by kernel_rfl) (by kernel_rfl) (by kernel_rfl) (fun _ _ _ h => h) (Or.inl ⟨by rfl, ?_⟩) hS ?_
    rotate_left
    · intro w0 hs; skip; go_simp; try (with_reducible rfl)
    try simp only [Act.put, List.setIfInBounds_toArray, List.set_cons_zero, List.set_cons_succ]
    refine wpAnyH_done (by kernel_rfl) ?_ _
    replace L := L.call hS
    go_wp2
    go_ret
    exact ⟨by rw [HM.out]; rfl, L.below⟩
  · rw [show tErr t = 0 from if_neg hz] at p1
    have P1 := Lib.hid p1
    have HM := Lib.hid (hM.out.trans (if_neg hz))
    clear p1 hz hM
    have HC := Lib.hid hc
    clear hc
    go_enter Try.func17, Try.ntmps17
    go_wp2_with fail
    refine (P1.out _).mono ?_
    rintro e' w1 ⟨rfl, hw1⟩
    replace L := (L.call hw1).new (wcs t) 25
    clear hw1
    go_upto_region 2 with fail
    generalize hg : w1.alloc (.cells #[.int .u64 (wd t 0), .int .u64 (wd t 1), .int .u64 (wd t 2), .int .u64 (wd t 3)] 25) = v at *
    generalize w1.heap.size = g at *
    clear hg
    obtain ⟨c1, c0, l1, l0⟩ := L.c2
    have B0 : Blk v w.heap.size (hls h).toArray 36 := L.at (b := w.heap.size) (c := hcs h) (t := 36) (by simp)
    clear c0
    refine wp_region_held_drew (S := fun w' => Below v.heap.size v w' ∧ (∀ b o, b < v.heap.size → w'.cell? ⟨b, o, none⟩ = v.cell? ⟨b, o, none⟩) ∧ w'.rangeAt w.heap.size 0 (hls h)) (by kernel_rfl) (SR.start B0) (fun hS => ?_)
    refine wpAnyH_take (i := 0) (oi := ⟨_, _, _, _, _, _⟩) (v := ?_) rfl (by kernel_rfl) (by kernel_rfl) (by kernel_rfl) (fun _ _ _ h => h) (Or.inl ⟨by rfl, ?_⟩) hS ?_
    rotate_left
    · intro w0 hs; obtain ⟨s1, s2, s3⟩ := hs; go_simp; try (with_reducible rfl)
    try simp only [Act.put, List.setIfInBounds_toArray, List.set_cons_zero, List.set_cons_succ]
    refine wpAnyH_take (i := 1) (oi := ⟨_, _, _, _, _, _⟩) (v := ?_) rfl (by kernel_rfl) (by kernel_rfl) (by kernel_rfl) (fun _ _ _ h => h) (Or.inl ⟨by rfl, ?_⟩) hS ?_
    rotate_left
    · intro w0 hs; obtain ⟨s1, s2, s3⟩ := hs; go_simp; try (with_reducible rfl)
    try simp only [Act.put, List.setIfInBounds_toArray, List.set_cons_zero, List.set_cons_succ]
    refine wpAnyH_take (i := 2) (oi := ⟨_, _, _, _, _, _⟩) (v := ?_) rfl (by kernel_rfl) (by kernel_rfl) (by kernel_rfl) (fun _ _ _ h => h) (Or.inl ⟨by rfl, ?_⟩) hS ?_
    rotate_left
    · intro w0 hs; obtain ⟨s1, s2, s3⟩ := hs; go_simp; try (with_reducible rfl)
    try simp only [Act.put, List.setIfInBounds_toArray, List.set_cons_zero, List.set_cons_succ]
    refine wpAnyH_take (i := 3) (oi := ⟨_, _, _, _, _, _⟩) (v := hv h) rfl (by kernel_rfl) (by kernel_rfl) (by kernel_rfl) (fun _ _ _ h => h) (yieldsIf_load_mid (by rfl) 36 (.tmp 2) rfl w.heap.size 0 rfl (hls h) (.array 32 5) (fun _ hs => hs.2.2) hu rfl hi) hS ?_
    try simp only [Act.put, List.setIfInBounds_toArray, List.set_cons_zero, List.set_cons_succ]
    refine wpAnyH_take (i := 5) (oi := ⟨_, _, _, _, _, _⟩) (v := ?_) rfl (by kernel_rfl) (by kernel_rfl) (by kernel_rfl) (fun _ _ _ h => h) (Or.inl ⟨by rfl, ?_⟩) hS ?_
    rotate_left
    · intro w0 hs; obtain ⟨s1, s2, s3⟩ := hs; go_simp; try (with_reducible rfl)
    try simp only [Act.put, List.setIfInBounds_toArray, List.set_cons_zero, List.set_cons_succ]
    refine wpAnyH_ready (rs := [4]) (by kernel_rfl) (by simp) ?_
    refine AllReadyH.cons (o := ⟨_, _, _, _, _, _⟩) rfl (fun K hK => ?_) AllReadyH.nil
    rw [if_pos (by rfl)]
    go_step
    refine (P2.out _).mono ?_
    rintro e w1 ⟨rfl, hw1⟩
    simp only []
    refine hK.out _ _ (SR.keep hS l0 hw1) (fun hS' => ?_)
    clear hS hK
    have hS := hS'; clear hS'
    try simp only [Act.put, List.setIfInBounds_toArray, List.set_cons_zero, List.set_cons_succ]
    refine wpAnyH_ready (rs := [6]) (by kernel_rfl) (by simp) ?_
    refine AllReadyH.cons (o := ⟨_, _, _, _, _, _⟩) rfl (fun K hK => ?_) AllReadyH.nil
    rw [if_pos (by rfl)]
    go_step
    refine (P3.out _).mono ?_
    rintro e w2 ⟨rfl, hw2⟩
    simp only []
    refine hK.out _ _ (SR.keep hS l0 hw2) (fun hS' => ?_)
    clear hS hK
    have hS := hS'; clear hS'
    try simp only [Act.put, List.setIfInBounds_toArray, List.set_cons_zero, List.set_cons_succ]
    refine wpAnyH_take (i := 7) (oi := ⟨_, _, _, _, _, _⟩) (v := ?_) rfl (by kernel_rfl) (by kernel_rfl) (by kernel_rfl) (fun _ _ _ h => h) (Or.inl ⟨by rfl, ?_⟩) hS ?_
    rotate_left
    · intro w0 hs; obtain ⟨s1, s2, s3⟩ := hs; go_simp; try (with_reducible rfl)
    try simp only [Act.put, List.setIfInBounds_toArray, List.set_cons_zero, List.set_cons_succ]
    refine wpAnyH_take (i := 8) (oi := ⟨_, _, _, _, _, _⟩) (v := ?_) rfl (by kernel_rfl) (by kernel_rfl) (by kernel_rfl) (fun _ _ _ h => h) (Or.inl ⟨by rfl, ?_⟩) hS ?_
    rotate_left
    · intro w0 hs; obtain ⟨s1, s2, s3⟩ := hs; go_simp; try (with_reducible rfl)
    try simp only [Act.put, List.setIfInBounds_toArray, List.set_cons_zero, List.set_cons_succ]
    refine wpAnyH_take (i := 9) (oi := ⟨_, _, _, _, _, _⟩) (v := ?_) rfl (by kernel_rfl) (by kernel_rfl) (by kernel_rfl) (fun _ _ _ h => h) (Or.inl ⟨by rfl, ?_⟩) hS ?_
    rotate_left
    · intro w0 hs; obtain ⟨s1, s2, s3⟩ := hs; go_simp; try (with_reducible rfl)
    try simp only [Act.put, List.setIfInBounds_toArray, List.set_cons_zero, List.set_cons_succ]
    refine wpAnyH_done (by kernel_rfl) ?_ _
    replace L := L.call hS.1
    go_wp2
    go_ret
    exact ⟨by rw [HM.out, HC.out]; rfl, L.below⟩

theorem meets_easy : meetsB 0 486604799 = true := by
  rw [meets_def, if_neg (by rw [tgt_easy]; decide +kernel), decide_eq_true (Nat.zero_le _)]
set_option maxRecDepth 100000 in
set_option maxHeartbeats 800000 in
theorem meets_walk (h b : Nat) (w : World) (hh : h < W256) (hb : b < 2 ^ 32) :
    Calls Try.prog 5 #[hv h, .int .u32 (b : Int)] w fun e w' => e = .returned (.bool true) ∧ Below w.heap.size w w' := by
  have p1 := fun w => wmeets h b w hh hb
  have p2 := fun w => rmeets h b w hh hb
  have p3 := fun w => wmeets 0 486604799 w W_pos (by decide)
  rw [meets_easy, show ((486604799 : Nat) : Int) = 486604799 from rfl, hv, hcs_zero] at p3
  have hu : Try.prog.underlying 36 = some (.array 32 5) := Try.underlying36
  have hi : (Try.prog.info? 36).map (·.size) = some (hls h).length := by rw [hls_length]; kernel_rfl
  generalize meetsB h b = mb at *
  have P1 := Lib.hid p1
  have P2 := Lib.hid p2
  have P3 := Lib.hid p3
  clear p1 p2 p3
  have L := (St.refl w).new (hcs h) 36
  go_enter Try.func5, Try.ntmps5
  go_upto_region 1 with fail
  generalize hg : w.alloc (.cells (hcs h) 36) = v at *
  clear hg
  have B0 : Blk v w.heap.size (hls h).toArray 36 := L.at (b := w.heap.size) (c := hcs h) (t := 36) (by simp)
  have l0 := B0.lt
  refine wp_region_held_drew (S := fun w' => Below v.heap.size v w' ∧ (∀ b o, b < v.heap.size → w'.cell? ⟨b, o, none⟩ = v.cell? ⟨b, o, none⟩) ∧ w'.rangeAt w.heap.size 0 (hls h)) (by kernel_rfl) (SR.start B0) (fun hS => ?_)
  refine wpAnyH_take (i := 0) (oi := ⟨_, _, _, _, _, _⟩) (v := hv h) rfl (by kernel_rfl) (by kernel_rfl) (by kernel_rfl) (fun _ _ _ h => h) (yieldsIf_load_mid (by rfl) 36 (.tmp 2) rfl w.heap.size 0 rfl (hls h) (.array 32 5) (fun _ hs => hs.2.2) hu rfl hi) hS ?_
  try simp only [Act.put, List.setIfInBounds_toArray, List.set_cons_zero, List.set_cons_succ]
  refine wpAnyH_take (i := 1) (oi := ⟨_, _, _, _, _, _⟩) (v := ?_) rfl (by kernel_rfl) (by kernel_rfl) (by kernel_rfl) (fun _ _ _ h => h) (Or.inl ⟨by rfl, ?_⟩) hS ?_
  rotate_left
  · intro w0 hs; obtain ⟨s1, s2, s3⟩ := hs; go_simp; try (with_reducible rfl)
  try simp only [Act.put, List.setIfInBounds_toArray, List.set_cons_zero, List.set_cons_succ]
  refine wpAnyH_take (i := 3) (oi := ⟨_, _, _, _, _, _⟩) (v := hv h) rfl (by kernel_rfl) (by kernel_rfl) (by kernel_rfl) (fun _ _ _ h => h) (yieldsIf_load_mid (by rfl) 36 (.tmp 2) rfl w.heap.size 0 rfl (hls h) (.array 32 5) (fun _ hs => hs.2.2) hu rfl hi) hS ?_
  try simp only [Act.put, List.setIfInBounds_toArray, List.set_cons_zero, List.set_cons_succ]
  refine wpAnyH_take (i := 4) (oi := ⟨_, _, _, _, _, _⟩) (v := ?_) rfl (by kernel_rfl) (by kernel_rfl) (by kernel_rfl) (fun _ _ _ h => h) (Or.inl ⟨by rfl, ?_⟩) hS ?_
  rotate_left
  · intro w0 hs; obtain ⟨s1, s2, s3⟩ := hs; go_simp; try (with_reducible rfl)
  try simp only [Act.put, List.setIfInBounds_toArray, List.set_cons_zero, List.set_cons_succ]
  refine wpAnyH_ready (rs := [2]) (by kernel_rfl) (by simp) ?_
  refine AllReadyH.cons (o := ⟨_, _, _, _, _, _⟩) rfl (fun K hK => ?_) AllReadyH.nil
  rw [if_pos (by rfl)]
  go_step
  refine (P1.out _).mono ?_
  rintro e w1 ⟨rfl, hw1⟩
  simp only []
  refine hK.out _ _ (SR.keep hS l0 hw1) (fun hS' => ?_)
  clear hS hK
  have hS := hS'; clear hS'
  try simp only [Act.put, List.setIfInBounds_toArray, List.set_cons_zero, List.set_cons_succ]
  refine wpAnyH_ready (rs := [5]) (by kernel_rfl) (by simp) ?_
  refine AllReadyH.cons (o := ⟨_, _, _, _, _, _⟩) rfl (fun K hK => ?_) AllReadyH.nil
  rw [if_pos (by rfl)]
  go_step
  refine (P2.out _).mono ?_
  rintro e w2 ⟨rfl, hw2⟩
  simp only []
  refine hK.out _ _ (SR.keep hS l0 hw2) (fun hS' => ?_)
  clear hS hK
  have hS := hS'; clear hS'
  try simp only [Act.put, List.setIfInBounds_toArray, List.set_cons_zero, List.set_cons_succ]
  refine wpAnyH_take (i := 6) (oi := ⟨_, _, _, _, _, _⟩) (v := ?_) rfl (by kernel_rfl) (by kernel_rfl) (by kernel_rfl) (fun _ _ _ h => h) (Or.inl ⟨by rfl, ?_⟩) hS ?_
  rotate_left
  · intro w0 hs; obtain ⟨s1, s2, s3⟩ := hs; go_simp; try (with_reducible rfl)
  try simp only [Act.put, List.setIfInBounds_toArray, List.set_cons_zero, List.set_cons_succ]
  refine wpAnyH_take (i := 7) (oi := ⟨_, _, _, _, _, _⟩) (v := ?_) rfl (by kernel_rfl) (by kernel_rfl) (by kernel_rfl) (fun _ _ _ h => h) (Or.inl ⟨by rfl, ?_⟩) hS ?_
  rotate_left
  · intro w0 hs; obtain ⟨s1, s2, s3⟩ := hs; go_simp; try (with_reducible rfl)
  try simp only [Act.put, List.setIfInBounds_toArray, List.set_cons_zero, List.set_cons_succ]
  refine wpAnyH_take (i := 8) (oi := ⟨_, _, _, _, _, _⟩) (v := ?_) rfl (by kernel_rfl) (by kernel_rfl) (by kernel_rfl) (fun _ _ _ h => h) (Or.inl ⟨by rfl, ?_⟩) hS ?_
  rotate_left
  · intro w0 hs; obtain ⟨s1, s2, s3⟩ := hs; go_simp; try (with_reducible rfl)
  try simp only [Act.put, List.setIfInBounds_toArray, List.set_cons_zero, List.set_cons_succ]
  refine wpAnyH_ready (rs := [9]) (by kernel_rfl) (by simp) ?_
  refine AllReadyH.cons (o := ⟨_, _, _, _, _, _⟩) rfl (fun K hK => ?_) AllReadyH.nil
  rw [if_pos (by rfl)]
  go_step
  refine (P3.out _).mono ?_
  rintro e w3 ⟨rfl, hw3⟩
  simp only []
  refine hK.out _ _ (SR.keep hS l0 hw3) (fun hS' => ?_)
  clear hS hK
  have hS := hS'; clear hS'
  try simp only [Act.put, List.setIfInBounds_toArray, List.set_cons_zero, List.set_cons_succ]
  refine wpAnyH_take (i := 10) (oi := ⟨_, _, _, _, _, _⟩) (v := ?_) rfl (by kernel_rfl) (by kernel_rfl) (by kernel_rfl) (fun _ _ _ h => h) (Or.inl ⟨by rfl, ?_⟩) hS ?_
  rotate_left
  · intro w0 hs; obtain ⟨s1, s2, s3⟩ := hs; go_simp; try (with_reducible rfl)
  try simp only [Act.put, List.setIfInBounds_toArray, List.set_cons_zero, List.set_cons_succ]
  refine wpAnyH_take (i := 11) (oi := ⟨_, _, _, _, _, _⟩) (v := ?_) rfl (by kernel_rfl) (by kernel_rfl) (by kernel_rfl) (fun _ _ _ h => h) (Or.inl ⟨by rfl, ?_⟩) hS ?_
  rotate_left
  · intro w0 hs; obtain ⟨s1, s2, s3⟩ := hs; go_simp; try (with_reducible rfl)
  try simp only [Act.put, List.setIfInBounds_toArray, List.set_cons_zero, List.set_cons_succ]
  refine wpAnyH_done (by kernel_rfl) ?_ _

  replace L := L.call hS.1
  go_wp2
  go_ret
  exact ⟨rfl, L.below⟩
theorem meets_any (h : Nat) (a : Int) (w : World) (hh : h < W256) (ha : (Lit.int .u32 a).wf = true) :
    Calls Try.prog 5 #[hv h, .int .u32 a] w fun e w' => e = .returned (.bool true) ∧ Below w.heap.size w w' := by
  obtain ⟨h0, h1⟩ := bounds_u32 ha
  obtain ⟨b, rfl⟩ := Int.eq_ofNat_of_zero_le h0
  exact meets_walk h b w hh (by omega)
end Go.Proofs.Ytacgcaebolmpfaa
