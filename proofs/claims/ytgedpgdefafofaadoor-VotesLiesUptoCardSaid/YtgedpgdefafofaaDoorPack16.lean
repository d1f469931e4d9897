import Derived.Test.YtgedpgdefafofaaDoorPack11
import Derived.Test.YtgedpgdefafofaaDoorPack14
import Derived.Test.YtgedpgdefafofaaDoorPack15
import Derived.Test.YtgedpgdefafofaaDoorPack2
import Derived.Test.YtgedpgdefafofaaDoorPack7
import Derived.Test.YtgedpgdefafofaaDoorPack8
import Derived.Laws.EntriesVeiled
import Derived.WalkKit
import Derived.Laws.BitsLemmas
section
/- An item's number, both sides. -/
namespace Go.Proofs.YtgedpgdefafofaaDoor
open Go Go.RowKit
set_option linter.unusedSimpArgs false
set_option linter.unusedVariables false
set_option maxRecDepth 100000

/-- an item's number, of k, under a hash -/
def itemV (n k : Nat) (ys : List Int) : Nat := (sipS (bw (n % 18446744073709551616)) (bw (n / 18446744073709551616 % 18446744073709551616)) ys).toNat * (k * 784931) / 18446744073709551616
theorem itemV_lt (n k : Nat) (ys : List Int) : itemV n k ys ≤ k * 784931 := by
  unfold itemV
  have := (sipS (bw (n % 18446744073709551616)) (bw (n / 18446744073709551616 % 18446744073709551616)) ys).isLt
  exact Nat.div_le_of_le_mul (Nat.mul_le_mul_right _ (by omega))
theorem itemV_lt' (n k : Nat) (ys : List Int) (hk : 0 < k) : itemV n k ys < k * 784931 := by
  unfold itemV
  have := (sipS (bw (n % 18446744073709551616)) (bw (n / 18446744073709551616 % 18446744073709551616)) ys).isLt
  exact Nat.div_lt_of_lt_mul (Nat.mul_lt_mul_of_pos_right (by omega) (by omega))
set_option maxHeartbeats 1600000 in
theorem pval (n k a b c : Nat) (q : Option Addr) (cap : Nat) (ys : List Int) (w : World) (hk : k ≤ 20000) (hR : RowOf w (.slice q ys.length cap) q cap ys)
    (h0 : w.cell? ⟨a, 0, none⟩ = some (.int .u64 ((n % 2 ^ 64 : Nat) : Int))) (h1 : w.cell? ⟨b, 0, none⟩ = some (.int .u64 ((n / 2 ^ 64 % 2 ^ 64 : Nat) : Int))) (h2 : w.cell? ⟨c, 0, none⟩ = some (.int .i64 (k : Int))) :
    Calls Tryd.prog 69 #[.slice q ys.length cap, .pointer (some ⟨a, 0, none⟩), .pointer (some ⟨b, 0, none⟩), .pointer (some ⟨c, 0, none⟩)] w fun e w' => e = .returned (.int .u64 ((itemV n k ys : Nat) : Int)) ∧ Below w.heap.size w w' := by
  have hm0 : n % 18446744073709551616 < 18446744073709551616 := Nat.mod_lt _ (by decide)
  have hm1 : n / 18446744073709551616 % 18446744073709551616 < 18446744073709551616 := Nat.mod_lt _ (by decide)
  have PS := fun (wx : World) (hb : Below w.heap.size w wx) => psip (bw (n % 18446744073709551616)) (bw (n / 18446744073709551616 % 18446744073709551616)) ys q cap wx (hR.below hb).bytes hR.range hR.cap (by have := hR.most; omega) (by have := hR.len; omega)
  rw [lv_bw _ hm0, lv_bw _ hm1] at PS
  replace PS := Lib.hid PS
  have hkw : IntKind.u64.wrap ((k : Int) * 784931) = ((k * 784931 : Nat) : Int) := by rw [IntKind.wrap_u64]; omega
  have hku : IntKind.u64.wrap (k : Int) = (k : Int) := IntWalk.u64_in _ (by omega)
  have PC := fun (wx : World) => pscale (sipS (bw (n % 18446744073709551616)) (bw (n / 18446744073709551616 % 18446744073709551616)) ys).toNat (k * 784931) (BitVec.isLt _) (by omega) wx
  replace PC := Lib.hid (show ∀ wx : World, Calls Tryd.prog 70 #[.int .u64 (lv (sipS (bw (n % 18446744073709551616)) (bw (n / 18446744073709551616 % 18446744073709551616)) ys)), .int .u64 ((k * 784931 : Nat) : Int)] wx fun e w' => e = .returned (.int .u64 ((itemV n k ys : Nat) : Int)) ∧ w' = wx from PC)
  have e0 : w.cell? ⟨a, 0, none⟩ = some (.int .u64 ((n % 18446744073709551616 : Nat) : Int)) := h0
  have e1 : w.cell? ⟨b, 0, none⟩ = some (.int .u64 ((n / 18446744073709551616 % 18446744073709551616 : Nat) : Int)) := h1
  have HC := Lib.hid (And.intro (cell_lt e0) (And.intro (cell_lt e1) (cell_lt h2)))
  clear h0 h1 hR
  generalize itemV n k ys = V at *
  generalize sipS (bw (n % 18446744073709551616)) (bw (n / 18446744073709551616 % 18446744073709551616)) ys = SS at *
  generalize n % 18446744073709551616 = m0 at *
  generalize n / 18446744073709551616 % 18446744073709551616 = m1 at *
  generalize k * 784931 = km at *
  go_enter Tryd.func69, Tryd.ntmps69
  go_upto_region 1 with fail
  refine wp_region_held_drew (S := fun w' => Below w.heap.size w w') (by kernel_rfl) ((Below.refl _ _).drew) (fun hS => ?_)
  refine wpAnyH_take (i := 0) (oi := ⟨_, _, _, _, _, _⟩) (v := ?_) rfl (by kernel_rfl) (by kernel_rfl) (by kernel_rfl) (fun _ _ _ h => h) (Or.inl ⟨by rfl, ?_⟩) hS ?_
  rotate_left
  · intro w0 hs; have s0 := (hs.cell (p := ⟨a, 0, none⟩) HC.out.1).trans e0; have s1 := (hs.cell (p := ⟨b, 0, none⟩) HC.out.2.1).trans e1; have s2 := (hs.cell (p := ⟨c, 0, none⟩) HC.out.2.2).trans h2; clear hs; go_simp; try (with_reducible rfl)
  try simp only [Act.put, List.setIfInBounds_toArray, List.set_cons_zero, List.set_cons_succ]
  refine wpAnyH_take (i := 1) (oi := ⟨_, _, _, _, _, _⟩) (v := ?_) rfl (by kernel_rfl) (by kernel_rfl) (by kernel_rfl) (fun _ _ _ h => h) (Or.inl ⟨by rfl, ?_⟩) hS ?_
  rotate_left
  · intro w0 hs; have s0 := (hs.cell (p := ⟨a, 0, none⟩) HC.out.1).trans e0; have s1 := (hs.cell (p := ⟨b, 0, none⟩) HC.out.2.1).trans e1; have s2 := (hs.cell (p := ⟨c, 0, none⟩) HC.out.2.2).trans h2; clear hs; go_simp; try (with_reducible rfl)
  try simp only [Act.put, List.setIfInBounds_toArray, List.set_cons_zero, List.set_cons_succ]
  refine wpAnyH_take (i := 2) (oi := ⟨_, _, _, _, _, _⟩) (v := ?_) rfl (by kernel_rfl) (by kernel_rfl) (by kernel_rfl) (fun _ _ _ h => h) (Or.inl ⟨by rfl, ?_⟩) hS ?_
  rotate_left
  · intro w0 hs; have s0 := (hs.cell (p := ⟨a, 0, none⟩) HC.out.1).trans e0; have s1 := (hs.cell (p := ⟨b, 0, none⟩) HC.out.2.1).trans e1; have s2 := (hs.cell (p := ⟨c, 0, none⟩) HC.out.2.2).trans h2; clear hs; go_simp; try (with_reducible rfl)
  try simp only [Act.put, List.setIfInBounds_toArray, List.set_cons_zero, List.set_cons_succ]
  refine wpAnyH_take (i := 4) (oi := ⟨_, _, _, _, _, _⟩) (v := ?_) rfl (by kernel_rfl) (by kernel_rfl) (by kernel_rfl) (fun _ _ _ h => h) (Or.inl ⟨by rfl, ?_⟩) hS ?_
  rotate_left
  · intro w0 hs; have s0 := (hs.cell (p := ⟨a, 0, none⟩) HC.out.1).trans e0; have s1 := (hs.cell (p := ⟨b, 0, none⟩) HC.out.2.1).trans e1; have s2 := (hs.cell (p := ⟨c, 0, none⟩) HC.out.2.2).trans h2; clear hs; go_simp; try (with_reducible rfl)
  try simp only [Act.put, List.setIfInBounds_toArray, List.set_cons_zero, List.set_cons_succ]
  refine wpAnyH_take (i := 5) (oi := ⟨_, _, _, _, _, _⟩) (v := ?_) rfl (by kernel_rfl) (by kernel_rfl) (by kernel_rfl) (fun _ _ _ h => h) (Or.inl ⟨by rfl, ?_⟩) hS ?_
  rotate_left
  · intro w0 hs; have s0 := (hs.cell (p := ⟨a, 0, none⟩) HC.out.1).trans e0; have s1 := (hs.cell (p := ⟨b, 0, none⟩) HC.out.2.1).trans e1; have s2 := (hs.cell (p := ⟨c, 0, none⟩) HC.out.2.2).trans h2; clear hs; go_simp; try (with_reducible rfl)
  try simp only [Act.put, List.setIfInBounds_toArray, List.set_cons_zero, List.set_cons_succ]
  refine wpAnyH_take (i := 6) (oi := ⟨_, _, _, _, _, _⟩) (v := ?_) rfl (by kernel_rfl) (by kernel_rfl) (by kernel_rfl) (fun _ _ _ h => h) (Or.inl ⟨by rfl, ?_⟩) hS ?_
  rotate_left
  · intro w0 hs; have s0 := (hs.cell (p := ⟨a, 0, none⟩) HC.out.1).trans e0; have s1 := (hs.cell (p := ⟨b, 0, none⟩) HC.out.2.1).trans e1; have s2 := (hs.cell (p := ⟨c, 0, none⟩) HC.out.2.2).trans h2; clear hs; go_simp; try (with_reducible rfl)
  try simp only [Act.put, List.setIfInBounds_toArray, List.set_cons_zero, List.set_cons_succ]
  refine wpAnyH_ready (rs := [3]) (by kernel_rfl) (by simp) ?_
  refine AllReadyH.cons (o := ⟨_, _, _, _, _, _⟩) rfl (fun K hK => ?_) AllReadyH.nil
  rw [if_pos (by rfl)]
  go_step
  refine (PS.out _ hS).mono ?_
  rintro e v1 ⟨rfl, hv1⟩
  simp only []
  refine hK.out _ _ (hS.trans (hv1.mono hS.size)) (fun hS' => ?_)
  clear hS hK
  have hS := hS'; clear hS'
  try simp only [Act.put, List.setIfInBounds_toArray, List.set_cons_zero, List.set_cons_succ]
  refine wpAnyH_ready (rs := [7]) (by kernel_rfl) (by simp) ?_
  refine AllReadyH.cons (o := ⟨_, _, _, _, _, _⟩) rfl (fun K hK => ?_) AllReadyH.nil
  rw [if_pos (by rfl)]
  go_step
  refine (PC.out _).mono ?_
  rintro e v2 ⟨rfl, rfl⟩
  simp only []
  refine hK.out _ _ hS (fun hS' => ?_)
  clear hS hK
  have hS := hS'; clear hS'
  try simp only [Act.put, List.setIfInBounds_toArray, List.set_cons_zero, List.set_cons_succ]
  refine wpAnyH_take (i := 8) (oi := ⟨_, _, _, _, _, _⟩) (v := ?_) rfl (by kernel_rfl) (by kernel_rfl) (by kernel_rfl) (fun _ _ _ h => h) (Or.inl ⟨by rfl, ?_⟩) hS ?_
  rotate_left
  · intro w0 hs; have s0 := (hs.cell (p := ⟨a, 0, none⟩) HC.out.1).trans e0; have s1 := (hs.cell (p := ⟨b, 0, none⟩) HC.out.2.1).trans e1; have s2 := (hs.cell (p := ⟨c, 0, none⟩) HC.out.2.2).trans h2; clear hs; go_simp; try (with_reducible rfl)
  try simp only [Act.put, List.setIfInBounds_toArray, List.set_cons_zero, List.set_cons_succ]
  refine wpAnyH_done (by kernel_rfl) ?_ _
  have HS := Lib.hid hS
  clear hS
  go_wp2
  go_ret
  exact ⟨rfl, HS.out⟩
theorem rnum_of {w : World} {g n : Nat} {t : TypeId} (h : Blk w g (hcs n) t) (a c : Nat) (hk : a + 8 ≤ 32) : Calls Tryd.prog 53 #[.slice (some ⟨g, a, none⟩) 8 c] w fun e w' => e = .returned (.int .u64 ((n / 2 ^ (8 * a) % 2 ^ 64 : Nat) : Int)) ∧ w = w' := by
  have := rnum _ (some ⟨g, a, none⟩) c w (hbytes_sub h a 8 hk) (fun y hy => by
    obtain ⟨j, _, rfl⟩ := List.mem_map.1 hy
    have := byt_range n (a + j); omega) (by simp)
  rw [leN_bytes, show ((List.range 8).map fun j => byt n (a + j)).length = 8 from by simp] at this
  exact this
set_option maxHeartbeats 1600000 in
theorem rval (n k : Nat) (q : Option Addr) (cap : Nat) (ys : List Int) (w : World) (hk : k ≤ 20000) (hR : RowOf w (.slice q ys.length cap) q cap ys) :
    Calls Tryd.prog 28 #[hv n, .slice q ys.length cap, .int .i64 (k : Int)] w fun e w' => e = .returned (.int .u64 ((itemV n k ys : Nat) : Int)) ∧ Below w.heap.size w w' := by
  have hm0 : n % 18446744073709551616 < 18446744073709551616 := Nat.mod_lt _ (by decide)
  have hm1 : n / 18446744073709551616 % 18446744073709551616 < 18446744073709551616 := Nat.mod_lt _ (by decide)
  have PS := fun (wx : World) (hb : Below w.heap.size w wx) => rsip (bw (n % 18446744073709551616)) (bw (n / 18446744073709551616 % 18446744073709551616)) ys q cap wx (hR.below hb).bytes hR.range (by have := hR.len; omega)
  rw [lv_bw _ hm0, lv_bw _ hm1] at PS
  replace PS := Lib.hid PS
  have hkw : IntKind.u64.wrap ((k : Int) * 784931) = ((k * 784931 : Nat) : Int) := by rw [IntKind.wrap_u64]; omega
  have hku : IntKind.u64.wrap (k : Int) = (k : Int) := IntWalk.u64_in _ (by omega)
  have PC := fun (wx : World) => rscale (sipS (bw (n % 18446744073709551616)) (bw (n / 18446744073709551616 % 18446744073709551616)) ys).toNat (k * 784931) (BitVec.isLt _) (by omega) wx
  replace PC := Lib.hid (show ∀ wx : World, Calls Tryd.prog 54 #[.int .u64 (lv (sipS (bw (n % 18446744073709551616)) (bw (n / 18446744073709551616 % 18446744073709551616)) ys)), .int .u64 ((k * 784931 : Nat) : Int)] wx fun e w' => e = .returned (.int .u64 ((itemV n k ys : Nat) : Int)) ∧ w' = wx from PC)
  have BN := Lib.hid (Blk.new w (hcs n) 24)
  have KN := Lib.hid ((Below.refl w.heap.size w).alloc (Nat.le_refl _) (.cells (hcs n) 24))
  have P0 := Lib.hid (fun w' (hS : Blk w' w.heap.size (hcs n) 24) => rnum_of hS 0 32 (by decide))
  have P1 := Lib.hid (fun w' (hS : Blk w' w.heap.size (hcs n) 24) => rnum_of hS 8 24 (by decide))
  rw [show n / 2 ^ (8 * 0) % 2 ^ 64 = n % 18446744073709551616 from by rw [Nat.mul_zero, Nat.pow_zero, Nat.div_one]] at P0
  rw [show n / 2 ^ (8 * 8) % 2 ^ 64 = n / 18446744073709551616 % 18446744073709551616 from rfl] at P1
  clear hR
  generalize itemV n k ys = V at *
  generalize sipS (bw (n % 18446744073709551616)) (bw (n / 18446744073709551616 % 18446744073709551616)) ys = SS at *
  generalize n % 18446744073709551616 = m0 at *
  generalize n / 18446744073709551616 % 18446744073709551616 = m1 at *
  generalize k * 784931 = km at *
  go_enter Tryd.func28, Tryd.ntmps28
  go_upto_region 1 with fail
  generalize w.alloc (.cells (hcs n) 24) = W at *
  generalize hgw : w.heap.size = g at *
  refine wp_region_held_drew (S := fun w' => w' = W.drew) (by kernel_rfl) rfl (fun hS => ?_)
  refine wpAnyH_take (i := 0) (oi := ⟨_, _, _, _, _, _⟩) (v := ?_) rfl (by kernel_rfl) (by kernel_rfl) (by kernel_rfl) (fun _ _ _ h => h) (Or.inl ⟨by rfl, ?_⟩) hS ?_
  rotate_left
  · intro w0 hs; subst hs; go_simp; try (with_reducible rfl)
  try simp only [Act.put, List.setIfInBounds_toArray, List.set_cons_zero, List.set_cons_succ]
  refine wpAnyH_take (i := 2) (oi := ⟨_, _, _, _, _, _⟩) (v := ?_) rfl (by kernel_rfl) (by kernel_rfl) (by kernel_rfl) (fun _ _ _ h => h) (Or.inl ⟨by rfl, ?_⟩) hS ?_
  rotate_left
  · intro w0 hs; subst hs; go_simp; try (with_reducible rfl)
  try simp only [Act.put, List.setIfInBounds_toArray, List.set_cons_zero, List.set_cons_succ]
  refine wpAnyH_ready (rs := [1]) (by kernel_rfl) (by simp) ?_
  refine AllReadyH.cons (o := ⟨_, _, _, _, _, _⟩) rfl (fun K hK => ?_) AllReadyH.nil
  rw [if_pos (by rfl)]
  go_step
  refine (P0.out _ BN.out.drew).mono ?_
  rintro e v1 ⟨rfl, rfl⟩
  simp only []
  refine hK.out _ _ rfl (fun hS' => ?_)
  clear hS hK
  have hS := hS'; clear hS'
  try simp only [Act.put, List.setIfInBounds_toArray, List.set_cons_zero, List.set_cons_succ]
  refine wpAnyH_ready (rs := [3]) (by kernel_rfl) (by simp) ?_
  refine AllReadyH.cons (o := ⟨_, _, _, _, _, _⟩) rfl (fun K hK => ?_) AllReadyH.nil
  rw [if_pos (by rfl)]
  go_step
  refine (P1.out _ BN.out.drew).mono ?_
  rintro e v2 ⟨rfl, rfl⟩
  simp only []
  refine hK.out _ _ rfl (fun hS' => ?_)
  clear hS hK
  have hS := hS'; clear hS'
  try simp only [Act.put, List.setIfInBounds_toArray, List.set_cons_zero, List.set_cons_succ]
  refine wpAnyH_take (i := 4) (oi := ⟨_, _, _, _, _, _⟩) (v := ?_) rfl (by kernel_rfl) (by kernel_rfl) (by kernel_rfl) (fun _ _ _ h => h) (Or.inl ⟨by rfl, ?_⟩) hS ?_
  rotate_left
  · intro w0 hs; subst hs; go_simp; try (with_reducible rfl)
  try simp only [Act.put, List.setIfInBounds_toArray, List.set_cons_zero, List.set_cons_succ]
  refine wpAnyH_take (i := 5) (oi := ⟨_, _, _, _, _, _⟩) (v := ?_) rfl (by kernel_rfl) (by kernel_rfl) (by kernel_rfl) (fun _ _ _ h => h) (Or.inl ⟨by rfl, ?_⟩) hS ?_
  rotate_left
  · intro w0 hs; subst hs; go_simp; try (with_reducible rfl)
  try simp only [Act.put, List.setIfInBounds_toArray, List.set_cons_zero, List.set_cons_succ]
  refine wpAnyH_done (by kernel_rfl) ?_ _
  clear hS
  have KD := KN.out.drew
  have PS2 := Lib.hid (PS.out _ (by rw [← hgw] at KD ⊢; exact KD))
  go_wp2_with fail
  refine PS2.out.mono ?_
  rintro e w3 ⟨rfl, hb3⟩
  have HF := Lib.hid (KD.trans (hb3.mono (by rw [← hgw]; exact KD.size)))
  have PC2 := Lib.hid (PC.out w3)
  clear hb3
  go_wp2_with fail
  refine PC2.out.mono ?_
  rintro e w4 ⟨rfl, rfl⟩
  go_wp2
  go_ret
  exact ⟨rfl, by rw [hgw]; exact HF.out⟩
end Go.Proofs.YtgedpgdefafofaaDoor
end

section
/- cmp.Less, isNaN, BinarySearch at uint64. -/
namespace Go.Proofs.YtgedpgdefafofaaDoor
open Go Go.RowKit
set_option linter.unusedSimpArgs false
set_option linter.unusedVariables false
set_option maxRecDepth 100000

theorem cnan (a : Nat) (w : World) : Calls Tryd.prog 94 #[.int .u64 (a : Int)] w fun e w' => e = .returned (.bool false) ∧ w = w' := by
  have h : ((a : Int) != (a : Int)) = false := bne_self_eq_false _
  go_enter Tryd.func94, Tryd.ntmps94
  go_wp2
  go_ret
  first | exact ⟨rfl, rfl⟩ | (refine ⟨?_, rfl⟩; rw [h])
theorem snan (a : Nat) (w : World) : Calls Tryd.prog 73 #[.int .u64 (a : Int)] w fun e w' => e = .returned (.bool false) ∧ w = w' := by
  have h : ((a : Int) != (a : Int)) = false := bne_self_eq_false _
  go_enter Tryd.func73, Tryd.ntmps73
  go_wp2
  go_ret
  first | exact ⟨rfl, rfl⟩ | (refine ⟨?_, rfl⟩; rw [h])
theorem cless (a b : Nat) (w : World) : Calls Tryd.prog 72 #[.int .u64 (a : Int), .int .u64 (b : Int)] w fun e w' => e = .returned (.bool (decide (a < b))) ∧ w = w' := by
  have P := Lib.hid (cnan a w)
  have hd : decide ((a : Int) < (b : Int)) = decide (a < b) := by simp
  go_enter Tryd.func72, Tryd.ntmps72
  go_wp2_with fail
  refine P.out.mono ?_
  rintro e w1 ⟨rfl, rfl⟩
  go_wp2
  go_ret
  first | exact ⟨rfl, rfl⟩ | (refine ⟨?_, rfl⟩; rw [hd])
/-- the numbers do not fall -/
def SortedN (l : List Nat) : Prop := ∀ i j, i ≤ j → j < l.length → l.getD i 0 ≤ l.getD j 0
theorem mem_of_bounds (l : List Nat) (x k : Nat) (h1 : ∀ i, i < k → l.getD i 0 < x) (h2 : ∀ i, k ≤ i → i < l.length → x ≤ l.getD i 0) (hs : SortedN l) (hk : k ≤ l.length) : x ∈ l ↔ (k < l.length ∧ l.getD k 0 = x) := by
  constructor
  · intro h
    obtain ⟨i, hi, e⟩ := List.mem_iff_getElem.1 h
    have hg : l.getD i 0 = x := by rw [List.getD_eq_getElem?_getD, List.getElem?_eq_getElem hi]; exact e
    rcases Nat.lt_or_ge i k with hik | hik
    · have := h1 i hik; omega
    · have hk' : k < l.length := by omega
      refine ⟨hk', ?_⟩
      have a := hs k i hik hi
      have b := h2 k (Nat.le_refl _) hk'
      omega
  · rintro ⟨hk', e⟩
    rw [List.getD_eq_getElem?_getD, List.getElem?_eq_getElem hk'] at e
    exact List.mem_iff_getElem.2 ⟨k, hk', e⟩
set_option maxHeartbeats 1600000 in
theorem bsearch (l : List Nat) (x : Nat) (q : Option Addr) (c : Nat) (w : World) (hU : U64In w q l) (hs : SortedN l) (hn : l.length ≤ 1000000) :
    Calls Tryd.prog 47 #[.slice q l.length c, .int .u64 (x : Int)] w fun e w' => (∃ i, e = .returned (.tuple #[.int .i64 i, .bool (decide (x ∈ l))])) ∧ w = w' := by
  have HU := Lib.hid hU
  have HS := Lib.hid hs
  obtain ⟨n, hn'⟩ : ∃ n, n = l.length := ⟨_, rfl⟩
  rw [← hn'] at hn ⊢
  have HN := Lib.hid hn'
  clear hU hs hn'
  obtain ⟨R, hR⟩ : ∃ R, R = decide (x ∈ l) := ⟨_, rfl⟩
  rw [← hR]
  have HR := Lib.hid hR
  clear hR
  have PL := Lib.hid (fun a => cless a x w)
  go_enter Tryd.func47, Tryd.ntmps47
  go_wp2
  go_loopg [7, 8] n (fun gh lo hi wx => ∃ a b : Nat, a ≤ b ∧ b ≤ n ∧ lo = .int .i64 (a : Int) ∧ hi = .int .i64 (b : Int) ∧ gh = b - a ∧ Hid ((∀ i, i < a → l.getD i 0 < x) ∧ (∀ i, b ≤ i → i < n → x ≤ l.getD i 0)) ∧ wx = w)
  case atStart => exact ⟨0, n, Nat.zero_le _, Nat.le_refl _, rfl, rfl, rfl, ⟨fun i hi => by omega, fun i h1 h2 => by omega⟩, rfl⟩
  case round =>
    obtain ⟨a, b, hab, hb, rfl, rfl, hg, HB, hwx⟩ := hrel
    obtain rfl : w = wr := hwx.symm
    have HG := Lib.hid hg
    clear hg
    by_cases hlt : a < b
    · obtain ⟨m, hm⟩ : ∃ m, m = (a + b) / 2 := ⟨_, rfl⟩
      obtain ⟨g, rfl, hc⟩ := HU.out m (by rw [← HN.out]; omega)
      have w1 : IntKind.i64.wrap ((a : Int) + (b : Int)) = ((a + b : Nat) : Int) := by rw [IntKind.wrap_i64]; omega
      have w2 : IntKind.u64.wrap (((a + b : Nat) : Int)) = ((a + b : Nat) : Int) := IntWalk.u64_in _ (by omega)
      have w3 : IntKind.i64.wrap (((a + b : Nat) : Int) / 2) = (m : Int) := by rw [IntKind.wrap_i64]; omega
      have w4 : ((a + b : Nat) : Int) / 2 = (m : Int) := by omega
      have w5 : IntKind.i64.wrap (m : Int) = (m : Int) := by rw [IntKind.wrap_i64]; omega
      have PM := Lib.hid (PL.out (l.getD m 0))
      have hmn : m < n := by omega
      have HM := Lib.hid (And.intro hm hmn)
      obtain ⟨y, hy⟩ : ∃ y, y = l.getD m 0 := ⟨_, rfl⟩
      rw [← hy] at hc PM
      have HY := Lib.hid hy
      generalize hab2 : a + b = ab at *
      have HAB := Lib.hid hab2
      clear hm hy hab2
      go_wp2_with fail
      refine PM.out.mono ?_
      rintro e w1 ⟨rfl, rfl⟩
      by_cases hyx : y < x
      · rw [decide_eq_true hyx]
        have HYX := Lib.hid hyx
        clear hyx
        go_wp2
        go_roundg (b - (m + 1))
        case measure => rw [HG.out]; have := HM.out; have := HAB.out; omega
        case rel => exact ⟨m + 1, b, by have := HM.out; have := HAB.out; omega, hb, rfl, rfl, rfl, ⟨fun i hi => by
          have := HS.out i m (by omega) (by rw [← HN.out]; exact hmn)
          have := HYX.out; have := HY.out; omega, HB.out.2⟩, rfl⟩
      · rw [decide_eq_false hyx]
        have HYX := Lib.hid hyx
        clear hyx
        go_wp2
        go_roundg (m - a)
        case measure => rw [HG.out]; have := HM.out; have := HAB.out; omega
        case rel => exact ⟨a, m, by have := HM.out; have := HAB.out; omega, by omega, rfl, rfl, rfl, ⟨HB.out.1, fun i h1 h2 => by
          have := HS.out m i h1 (by rw [← HN.out]; exact h2)
          have := HYX.out; have := HY.out; omega⟩, rfl⟩
    · obtain rfl : a = b := by omega
      have hmem := mem_of_bounds l x a HB.out.1 (by rw [← HN.out]; exact HB.out.2) HS.out (by rw [← HN.out]; exact hb)
      rw [← HN.out] at hmem
      by_cases hlt2 : a < n
      · obtain ⟨g, rfl, hc⟩ := HU.out a (by rw [← HN.out]; exact hlt2)
        generalize l.getD a 0 = y at *
        have PN := Lib.hid (snan y w)
        by_cases hxy : y = x
        · have hd : R = true := by rw [HR.out]; exact decide_eq_true (hmem.2 ⟨hlt2, hxy⟩)
          have HD := Lib.hid hd
          subst hxy
          have hb : ((y : Int) == (y : Int)) = true := by simp
          clear hmem hd HB
          go_wp2_with fail
          go_ret2
          exact ⟨⟨_, by rw [HD.out]; rfl⟩, rfl⟩
        · have hd : R = false := by rw [HR.out]; exact decide_eq_false (fun h => hxy (hmem.1 h).2)
          have HD := Lib.hid hd
          have hb : ((y : Int) == (x : Int)) = false := by rw [beq_eq_false_iff_ne]; omega
          have hb2 : ¬ ((y : Int) = (x : Int)) := by omega
          clear hmem hd HB hxy
          go_wp2_with fail
          refine PN.out.mono ?_
          rintro e w1 ⟨rfl, rfl⟩
          go_wp2_with fail
          go_ret2
          exact ⟨⟨_, by rw [HD.out]; rfl⟩, rfl⟩
      · have hd : R = false := by rw [HR.out]; exact decide_eq_false (fun h => hlt2 (hmem.1 h).1)
        have HD := Lib.hid hd
        clear hmem hd HB
        go_wp2_with fail
        go_ret2
        exact ⟨⟨_, by rw [HD.out]; rfl⟩, rfl⟩
end Go.Proofs.YtgedpgdefafofaaDoor
end

section
/- filter.Match. -/
namespace Go.Proofs.YtgedpgdefafofaaDoor
open Go Go.RowKit
set_option linter.unusedSimpArgs false
set_option linter.unusedVariables false
set_option maxRecDepth 100000

/-- does an item stand among the numbers? -/
def matchB (n : Nat) (l : List Nat) (Z : List Int) : Bool := decide (0 < Z.length) && decide (itemV n l.length Z ∈ l)
theorem UnderAt.below {w w' : World} {v : Value} {n k B : Nat} (h : UnderAt w v n k B) (hb : Below w.heap.size w w') : UnderAt w' v n k B := by
  obtain ⟨a, b, c, h0, h1, h2, h3, h4, h5, h6⟩ := h
  exact ⟨a, b, c, h0, h1, h2, h3, (hb.cell (p := ⟨a, 0, none⟩) (cell_lt h4)).trans h4, (hb.cell (p := ⟨b, 0, none⟩) (cell_lt h5)).trans h5, (hb.cell (p := ⟨c, 0, none⟩) (cell_lt h6)).trans h6⟩
/-- the two boxes that Match's closure has -/
structure Boxes (w : World) (lb nb : Nat) (n : Nat) (q : Option Addr) (c : Nat) (l : List Nat) : Prop where
  nums : w.cell? ⟨lb, 0, none⟩ = some (.slice q l.length c)
  fn : ∃ v B, w.cell? ⟨nb, 0, none⟩ = some v ∧ UnderAt w v n l.length B
  elems : U64In w q l
theorem Boxes.below {w w' : World} {lb nb n : Nat} {q : Option Addr} {c : Nat} {l : List Nat} (h : Boxes w lb nb n q c l) (hb : Below w.heap.size w w') : Boxes w' lb nb n q c l := by
  obtain ⟨v, B, h1, h2⟩ := h.fn
  exact ⟨(hb.cell (p := ⟨lb, 0, none⟩) (cell_lt h.nums)).trans h.nums, ⟨v, B, (hb.cell (p := ⟨nb, 0, none⟩) (cell_lt h1)).trans h1, h2.below hb⟩, h.elems.below hb⟩
set_option maxHeartbeats 1600000 in
theorem match1 (lb nb n : Nat) (q : Option Addr) (c : Nat) (l : List Nat) (A : Option Addr) (C : Nat) (Z : List Int) (w : World) (hB : Boxes w lb nb n q c l) (hs : SortedN l) (hn : l.length ≤ 20000) (hR : RowOf w (.slice A Z.length C) A C Z) :
    Calls Tryd.prog 46 #[.slice A Z.length C, .pointer (some ⟨lb, 0, none⟩), .pointer (some ⟨nb, 0, none⟩)] w fun e w' => e = .returned (.bool (matchB n l Z)) ∧ Below w.heap.size w w' := by
  by_cases h0 : 0 < Z.length
  · have hm : matchB n l Z = decide (itemV n l.length Z ∈ l) := by unfold matchB; rw [decide_eq_true h0, Bool.true_and]
    rw [hm]
    obtain ⟨v, B, hn1, hn2⟩ := hB.fn
    obtain ⟨a, b, d, rfl, u1, u2, u3, u4, u5, u6⟩ := hn2
    have b0 := hB.nums
    have PV := Lib.hid (fun (wx : World) (hb : Below w.heap.size w wx) => pval n l.length a b d A C Z wx hn (hR.below hb) ((hb.cell (p := ⟨a, 0, none⟩) (cell_lt u4)).trans u4) ((hb.cell (p := ⟨b, 0, none⟩) (cell_lt u5)).trans u5) ((hb.cell (p := ⟨d, 0, none⟩) (cell_lt u6)).trans u6))
    have PB := Lib.hid (fun (wx : World) (hb : Below w.heap.size w wx) => bsearch l (itemV n l.length Z) q c wx (hB.elems.below hb) hs (by omega))
    have HC := Lib.hid (And.intro (cell_lt b0) (cell_lt hn1))
    have hz : ¬ ((Z.length : Int) = 0) := by omega
    have hz2 : ¬ (Z.length = 0) := by omega
    generalize decide (itemV n l.length Z ∈ l) = R at *
    generalize itemV n l.length Z = V at *
    generalize Z.length = z at *
    generalize l.length = m at *
    clear hm hB hs hR u1 u2 u3 u4 u5 u6 h0
    go_enter Tryd.func46, Tryd.ntmps46
    go_upto_region 3 with fail
    refine wp_region_held_drew (S := fun w' => Below w.heap.size w w') (by kernel_rfl) ((Below.refl _ _).drew) (fun hS => ?_)
    refine wpAnyH_take (i := 0) (oi := ⟨_, _, _, _, _, _⟩) (v := ?_) rfl (by kernel_rfl) (by kernel_rfl) (by kernel_rfl) (fun _ _ _ h => h) (Or.inl ⟨by rfl, ?_⟩) hS ?_
    rotate_left
    · intro w0 hs; have s0 := (hs.cell (p := ⟨lb, 0, none⟩) HC.out.1).trans b0; have s1 := (hs.cell (p := ⟨nb, 0, none⟩) HC.out.2).trans hn1; clear hs; go_simp; try (with_reducible rfl)
    try simp only [Act.put, List.setIfInBounds_toArray, List.set_cons_zero, List.set_cons_succ]
    refine wpAnyH_take (i := 1) (oi := ⟨_, _, _, _, _, _⟩) (v := ?_) rfl (by kernel_rfl) (by kernel_rfl) (by kernel_rfl) (fun _ _ _ h => h) (Or.inl ⟨by rfl, ?_⟩) hS ?_
    rotate_left
    · intro w0 hs; have s0 := (hs.cell (p := ⟨lb, 0, none⟩) HC.out.1).trans b0; have s1 := (hs.cell (p := ⟨nb, 0, none⟩) HC.out.2).trans hn1; clear hs; go_simp; try (with_reducible rfl)
    try simp only [Act.put, List.setIfInBounds_toArray, List.set_cons_zero, List.set_cons_succ]
    refine wpAnyH_take (i := 2) (oi := ⟨_, _, _, _, _, _⟩) (v := ?_) rfl (by kernel_rfl) (by kernel_rfl) (by kernel_rfl) (fun _ _ _ h => h) (Or.inl ⟨by rfl, ?_⟩) hS ?_
    rotate_left
    · intro w0 hs; have s0 := (hs.cell (p := ⟨lb, 0, none⟩) HC.out.1).trans b0; have s1 := (hs.cell (p := ⟨nb, 0, none⟩) HC.out.2).trans hn1; clear hs; go_simp; try (with_reducible rfl)
    try simp only [Act.put, List.setIfInBounds_toArray, List.set_cons_zero, List.set_cons_succ]
    refine wpAnyH_ready (rs := [3]) (by kernel_rfl) (by simp) ?_
    refine AllReadyH.cons (o := ⟨_, _, _, _, _, _⟩) rfl (fun K hK => ?_) AllReadyH.nil
    rw [if_pos (by rfl)]
    go_step
    refine (PV.out _ hS).mono ?_
    rintro e v1 ⟨rfl, hv1⟩
    simp only []
    refine hK.out _ _ (hS.trans (hv1.mono hS.size)) (fun hS' => ?_)
    clear hS hK
    have hS := hS'; clear hS'
    try simp only [Act.put, List.setIfInBounds_toArray, List.set_cons_zero, List.set_cons_succ]
    refine wpAnyH_ready (rs := [4]) (by kernel_rfl) (by simp) ?_
    refine AllReadyH.cons (o := ⟨_, _, _, _, _, _⟩) rfl (fun K hK => ?_) AllReadyH.nil
    rw [if_pos (by rfl)]
    go_step
    refine (PB.out _ hS).mono ?_
    rintro e v2 ⟨⟨i5, rfl⟩, rfl⟩
    simp only []
    refine hK.out _ _ hS (fun hS' => ?_)
    clear hS hK
    have hS := hS'; clear hS'
    try simp only [Act.put, List.setIfInBounds_toArray, List.set_cons_zero, List.set_cons_succ]
    refine wpAnyH_take (i := 5) (oi := ⟨_, _, _, _, _, _⟩) (v := ?_) rfl (by kernel_rfl) (by kernel_rfl) (by kernel_rfl) (fun _ _ _ h => h) (Or.inl ⟨by rfl, ?_⟩) hS ?_
    rotate_left
    · intro w0 hs; have s0 := (hs.cell (p := ⟨lb, 0, none⟩) HC.out.1).trans b0; have s1 := (hs.cell (p := ⟨nb, 0, none⟩) HC.out.2).trans hn1; clear hs; go_simp; try (with_reducible rfl)
    try simp only [Act.put, List.setIfInBounds_toArray, List.set_cons_zero, List.set_cons_succ]
    refine wpAnyH_take (i := 6) (oi := ⟨_, _, _, _, _, _⟩) (v := ?_) rfl (by kernel_rfl) (by kernel_rfl) (by kernel_rfl) (fun _ _ _ h => h) (Or.inl ⟨by rfl, ?_⟩) hS ?_
    rotate_left
    · intro w0 hs; have s0 := (hs.cell (p := ⟨lb, 0, none⟩) HC.out.1).trans b0; have s1 := (hs.cell (p := ⟨nb, 0, none⟩) HC.out.2).trans hn1; clear hs; go_simp; try (with_reducible rfl)
    try simp only [Act.put, List.setIfInBounds_toArray, List.set_cons_zero, List.set_cons_succ]
    refine wpAnyH_take (i := 7) (oi := ⟨_, _, _, _, _, _⟩) (v := ?_) rfl (by kernel_rfl) (by kernel_rfl) (by kernel_rfl) (fun _ _ _ h => h) (Or.inl ⟨by rfl, ?_⟩) hS ?_
    rotate_left
    · intro w0 hs; have s0 := (hs.cell (p := ⟨lb, 0, none⟩) HC.out.1).trans b0; have s1 := (hs.cell (p := ⟨nb, 0, none⟩) HC.out.2).trans hn1; clear hs; go_simp; try (with_reducible rfl)
    try simp only [Act.put, List.setIfInBounds_toArray, List.set_cons_zero, List.set_cons_succ]
    refine wpAnyH_take (i := 8) (oi := ⟨_, _, _, _, _, _⟩) (v := ?_) rfl (by kernel_rfl) (by kernel_rfl) (by kernel_rfl) (fun _ _ _ h => h) (Or.inl ⟨by rfl, ?_⟩) hS ?_
    rotate_left
    · intro w0 hs; have s0 := (hs.cell (p := ⟨lb, 0, none⟩) HC.out.1).trans b0; have s1 := (hs.cell (p := ⟨nb, 0, none⟩) HC.out.2).trans hn1; clear hs; go_simp; try (with_reducible rfl)
    try simp only [Act.put, List.setIfInBounds_toArray, List.set_cons_zero, List.set_cons_succ]
    refine wpAnyH_take (i := 9) (oi := ⟨_, _, _, _, _, _⟩) (v := ?_) rfl (by kernel_rfl) (by kernel_rfl) (by kernel_rfl) (fun _ _ _ h => h) (Or.inl ⟨by rfl, ?_⟩) hS ?_
    rotate_left
    · intro w0 hs; have s0 := (hs.cell (p := ⟨lb, 0, none⟩) HC.out.1).trans b0; have s1 := (hs.cell (p := ⟨nb, 0, none⟩) HC.out.2).trans hn1; clear hs; go_simp; try (with_reducible rfl)
    try simp only [Act.put, List.setIfInBounds_toArray, List.set_cons_zero, List.set_cons_succ]
    refine wpAnyH_done (by kernel_rfl) ?_ _
    have HS := Lib.hid hS
    clear hS
    go_wp2
    go_ret
    exact ⟨rfl, HS.out⟩
  · have hm : matchB n l Z = false := by unfold matchB; rw [decide_eq_false h0, Bool.false_and]
    have hz : Z.length = 0 := by omega
    rw [hm, hz]
    clear hR
    go_enter Tryd.func46, Tryd.ntmps46
    go_wp2
    go_ret
    exact ⟨rfl, Below.refl _ _⟩
theorem any_range_succ (P : Nat → Bool) (k : Nat) : (List.range (k + 1)).any P = ((List.range k).any P || P k) := by
  rw [List.range_succ, List.any_append]; simp
set_option maxHeartbeats 1600000 in
/-- IndexFunc over rows, by a closure of two boxes -/
theorem index_rows (P : Nat → Bool) (p1 p2 : Value) (a0 : Option Addr) (len cap : Nat) (A : Nat → Option Addr) (C : Nat → Nat) (Z : Nat → List Int) (w : World) (hR : RowsIn w a0 len A C Z) (hl : len ≤ 9223372036854775807)
    (hP : ∀ wx, Below w.heap.size w wx → ∀ r, r < len → Calls Tryd.prog 46 #[.slice (A r) (Z r).length (C r), p1, p2] wx fun e w' => e = .returned (.bool (P r)) ∧ Below wx.heap.size wx w') :
    Calls Tryd.prog 49 #[.slice a0 len cap, .func (.func 46) #[] #[p1, p2]] w fun e w' => (∃ i : Int, e = .returned (.int .i64 i) ∧ decide (0 ≤ i) = (List.range len).any P) ∧ Below w.heap.size w w' := by
  have HR := Lib.hid hR
  have HP := Lib.hid hP
  clear hR hP
  go_enter Tryd.func49, Tryd.ntmps49
  go_wp2
  go_loopg [8] len (fun gh i wx => ∃ k : Nat, k ≤ len ∧ i = .int .i64 (k : Int) ∧ gh = len - k ∧ Hid ((List.range k).any P = false ∧ Below w.heap.size w wx))
  case atStart => exact ⟨0, Nat.zero_le _, rfl, rfl, rfl, Below.refl _ _⟩
  case round =>
    obtain ⟨k, hk, rfl, hg, HM⟩ := hrel
    have HG := Lib.hid hg
    clear hg
    by_cases hlt : k < len
    · obtain ⟨b, o, rfl, hc, hrow⟩ := (HR.out.below HM.out.2) k hlt
      have PK := Lib.hid (HP.out wr HM.out.2 k hlt)
      have hany := any_range_succ P k
      rw [HM.out.1, Bool.false_or] at hany
      have HANY := Lib.hid hany
      clear hrow hany
      cases hp : P k with
      | true =>
        rw [hp] at PK HANY
        have hall : (List.range len).any P = true := by
          rw [List.any_eq_true]; exact ⟨k, List.mem_range.2 hlt, hp⟩
        have HALL := Lib.hid hall
        clear hall hp
        go_wp2_with fail
        refine PK.out.mono ?_
        rintro e w1 ⟨rfl, hb1⟩
        have HB := Lib.hid (HM.out.2.trans (hb1.mono HM.out.2.size))
        clear hb1
        go_wp2
        exact bodyPost_ret (results_tmp Tryd.results49 _ _ _) rfl ⟨⟨_, rfl, by rw [HALL.out]; exact decide_eq_true (by omega)⟩, HB.out⟩
      | false =>
        rw [hp] at PK HANY
        clear hp
        go_wp2_with fail
        refine PK.out.mono ?_
        rintro e w1 ⟨rfl, hb1⟩
        have HB := Lib.hid (HM.out.2.trans (hb1.mono HM.out.2.size))
        clear hb1
        go_wp2
        go_roundg (len - (k + 1))
        case measure => rw [HG.out]; omega
        case rel => exact ⟨k + 1, hlt, rfl, rfl, HANY.out, HB.out⟩
    · obtain rfl : k = len := by omega
      go_wp2
      go_ret
      exact ⟨⟨-1, rfl, by rw [HM.out.1]; rfl⟩, HM.out.2⟩
set_option maxHeartbeats 1600000 in
theorem contains_rows (P : Nat → Bool) (p1 p2 : Value) (a0 : Option Addr) (len cap : Nat) (A : Nat → Option Addr) (C : Nat → Nat) (Z : Nat → List Int) (w : World) (hR : RowsIn w a0 len A C Z) (hl : len ≤ 9223372036854775807)
    (hP : ∀ wx, Below w.heap.size w wx → ∀ r, r < len → Calls Tryd.prog 46 #[.slice (A r) (Z r).length (C r), p1, p2] wx fun e w' => e = .returned (.bool (P r)) ∧ Below wx.heap.size wx w') :
    Calls Tryd.prog 23 #[.slice a0 len cap, .func (.func 46) #[] #[p1, p2]] w fun e w' => e = .returned (.bool ((List.range len).any P)) ∧ Below w.heap.size w w' := by
  have PI := Lib.hid (index_rows P p1 p2 a0 len cap A C Z w hR hl hP)
  clear hR hP
  generalize (List.range len).any P = R at *
  go_enter Tryd.func23, Tryd.ntmps23
  go_wp2_with fail
  refine PI.out.mono ?_
  rintro e w1 ⟨⟨i, rfl, hi⟩, hb⟩
  have HI := Lib.hid hi
  have HB := Lib.hid hb
  clear hi hb
  go_wp2
  go_ret
  refine ⟨?_, HB.out⟩
  rw [← HI.out]; rfl
end Go.Proofs.YtgedpgdefafofaaDoor
end

section
/- filter.Match and the document's. -/
namespace Go.Proofs.YtgedpgdefafofaaDoor
open Go Go.RowKit
set_option linter.unusedSimpArgs false
set_option linter.unusedVariables false
set_option maxRecDepth 100000

theorem getD_cons (x : Nat) (l : List Nat) (i : Nat) : (x :: l).getD (i + 1) 0 = l.getD i 0 := rfl
theorem SortedN.cons {x : Nat} {l : List Nat} (h : SortedN l) (hx : ∀ i, i < l.length → x ≤ l.getD i 0) : SortedN (x :: l) := fun i j hij hj => by
  rw [List.length_cons] at hj
  match i, j with
  | 0, 0 => exact Nat.le_refl _
  | 0, j + 1 => exact hx j (by omega)
  | i + 1, j + 1 => exact h i j (by omega) (by omega)
theorem valLoop_sorted {n : Nat} : ∀ {k sum : Nat} {s s' : List Bool} {l : List Nat}, valLoop n k sum s = some (l, s') → SortedN l ∧ ∀ i, i < l.length → sum ≤ l.getD i 0
  | 0, sum, s, s', l, h => by
    unfold valLoop at h; cases h; exact ⟨fun i j _ hj => by simp at hj, fun i hi => by simp at hi⟩
  | k + 1, sum, s, s', l, h => by
    cases hro : riceO 19 (2 * n) s with
    | none => rw [valLoop_none hro] at h; cases h
    | some ds =>
      obtain ⟨d, s2⟩ := ds
      by_cases hov : n * 784931 ≤ sum + d
      · rw [valLoop_over hro hov] at h; cases h
      · rw [valLoop_step hro hov] at h
        cases hv : valLoop n k (sum + d) s2 with
        | none => rw [hv] at h; cases h
        | some p =>
          rw [hv] at h
          obtain ⟨l2, s3⟩ := p
          cases h
          obtain ⟨h1, h2⟩ := valLoop_sorted hv
          refine ⟨h1.cons h2, fun i hi => ?_⟩
          match i with
          | 0 => exact Nat.le_add_right _ _
          | i + 1 => exact Nat.le_trans (Nat.le_add_right _ _) (h2 i (by simpa using hi))
theorem valuesS_sorted {bs : List Int} {l : List Nat} (h : valuesS bs = some l) : SortedN l := by
  unfold valuesS at h
  by_cases h0 : decE bs ≠ 0 ∨ 20000 < decN bs
  · rw [if_pos h0] at h; cases h
  · rw [if_neg h0] at h
    cases hv : valLoop (decN bs) (decN bs) 0 (unpack (decR bs)) with
    | none => rw [hv] at h; cases h
    | some p =>
      obtain ⟨l2, s⟩ := p
      rw [hv] at h
      simp only at h
      by_cases h7 : 7 < s.length
      · rw [if_pos h7] at h; cases h
      · rw [if_neg h7] at h
        by_cases hx : valOf s ≠ 0
        · rw [if_pos hx] at h; cases h
        · rw [if_neg hx] at h
          cases h
          exact (valLoop_sorted hv).1
/-- what Match answers -/
def matchE (n : Nat) (bs : List Int) (len : Nat) (Z : Nat → List Int) : Ending := match valuesS bs with
  | none => .returned (.tuple #[.bool false, .int .i64 120])
  | some l => .returned (.tuple #[.bool ((List.range len).any fun r => matchB n l (Z r)), .int .i64 0])
theorem matchE_none {n : Nat} {bs : List Int} {len : Nat} {Z : Nat → List Int} (h : valuesS bs = none) : matchE n bs len Z = .returned (.tuple #[.bool false, .int .i64 120]) := by unfold matchE; rw [h]
theorem matchE_some {n : Nat} {bs : List Int} {len : Nat} {Z : Nat → List Int} {l : List Nat} (h : valuesS bs = some l) : matchE n bs len Z = .returned (.tuple #[.bool ((List.range len).any fun r => matchB n l (Z r)), .int .i64 0]) := by unfold matchE; rw [h]
set_option maxHeartbeats 3200000 in
theorem pmatch (n : Nat) (bs : List Int) (q : Option Addr) (c : Nat) (a0 : Option Addr) (len cap : Nat) (A : Nat → Option Addr) (C : Nat → Nat) (Z : Nat → List Int) (w : World)
    (hy : Lib.BytesIn w q bs.length bs) (hr : ∀ y ∈ bs, 0 ≤ y ∧ y ≤ 255) (hc : bs.length ≤ c) (hcm : c ≤ 9223372036854775807) (hl47 : bs.length ≤ 140737488355328)
    (hR : RowsIn w a0 len A C Z) (hl : len ≤ 9223372036854775807) :
    Calls Tryd.prog 21 #[hv n, .slice q bs.length c, .slice a0 len cap] w fun e w' => e = matchE n bs len Z ∧ Below w.heap.size w w' := by
  have B0 := Blk.new w (hcs n) 24
  have K0 := (Below.refl w.heap.size w).alloc (Nat.le_refl _) (.cells (hcs n) 24)
  have PV := Lib.hid (pvalues bs q c (w.alloc (.cells (hcs n) 24)) (bytes_keep hy (Keep.of_below (X := fun _ => False) K0) (fun _ _ _ h => h)) hr hc hcm hl47)
  have HB := Lib.hid (And.intro B0 (And.intro K0 (hR.below K0)))
  clear B0 K0 hy hR
  generalize hbn : bs.length = bn at *
  go_enter Tryd.func21, Tryd.ntmps21
  go_upto_region 1 with fail
  generalize w.alloc (.cells (hcs n) 24) = w0 at *
  generalize hgw : w.heap.size = hb at *
  go_wp2_with fail
  refine PV.out.mono ?_
  rintro e w1 ⟨hb1, ⟨hno, rfl⟩ | ⟨l, v, o, hsome, rfl, hrow, ho⟩⟩
  · have HE := Lib.hid (matchE_none (n := n) (len := len) (Z := Z) hno)
    have K1 := Lib.hid ((HB.out.2.1.trans (hb1.mono (by rw [← hgw]; exact HB.out.2.1.size))).alloc (by have := HB.out.2.1.size; have := hb1.size; omega) (.cells #[.slice none 0 0] 57))
    clear hb1 hno
    go_wp2
    exact bodyPost_ret (results_tmp2 Tryd.results21 _ _ _) rfl ⟨HE.out.symm, by rw [hgw]; exact K1.out⟩
  · have HE := Lib.hid (matchE_some (n := n) (len := len) (Z := Z) hsome)
    have hsort := valuesS_sorted hsome
    have hlen := valuesS_len hsome
    obtain ⟨pv, cv, rfl, hU⟩ := U64In.of_row hrow
    have b2 := Blk.new w1 #[.slice pv l.length cv] 57
    have k2 := (Below.refl w1.heap.size w1).alloc (Nat.le_refl _) (.cells #[.slice pv l.length cv] 57)
    have k02 := hb1.trans (k2.mono hb1.size)
    have HU := Lib.hid (hU.below k2)
    have PU := Lib.hid (under_any n l.length (w1.alloc (.cells #[.slice pv l.length cv] 57)))
    have hbx := HB.out.1.beyond k02
    have K2 := Lib.hid (And.intro (HB.out.2.1.trans (k02.mono (by rw [← hgw]; exact HB.out.2.1.size))) (HB.out.2.2.below k02))
    have hc1 : (w1.alloc (.cells #[.slice pv l.length cv] 57)).cell? ⟨w1.heap.size, 0, none⟩ = some (.slice pv l.length cv) := by rw [b2.cell]; rfl
    have HL := Lib.hid (And.intro hsort (And.intro hlen hc1))
    clear hb1 hsome hsort hlen hU hrow ho b2 k2 k02
    go_upto_region 4 with fail
    generalize hw2 : w1.alloc (.cells #[.slice pv l.length cv] 57) = w2 at *
    generalize w1.heap.size = lb at *
    go_wp2_with (refine wpl_load rfl 24 (.tmp 3) rfl rfl hbx Tryd.underlying24 (by rw [hcs_size]; kernel_rfl) ?_)
    refine PU.out.mono ?_
    rintro e w3 ⟨vf, rfl, hund, hb3⟩
    have hund' := hund
    obtain ⟨ua, ub, uc, hvf, _⟩ := hund'
    subst hvf
    have b4 := Blk.new w3 #[.func (.func 69) #[] #[.pointer (some ⟨ua, 0, none⟩), .pointer (some ⟨ub, 0, none⟩), .pointer (some ⟨uc, 0, none⟩)]] 93
    have k4 := (Below.refl w3.heap.size w3).alloc (Nat.le_refl _) (.cells #[.func (.func 69) #[] #[.pointer (some ⟨ua, 0, none⟩), .pointer (some ⟨ub, 0, none⟩), .pointer (some ⟨uc, 0, none⟩)]] 93)
    have k24 := hb3.trans (k4.mono hb3.size)
    have hbox : Boxes (w3.alloc (.cells #[.func (.func 69) #[] #[.pointer (some ⟨ua, 0, none⟩), .pointer (some ⟨ub, 0, none⟩), .pointer (some ⟨uc, 0, none⟩)]] 93)) lb w3.heap.size n pv cv l :=
      ⟨(k24.cell (p := ⟨lb, 0, none⟩) (cell_lt HL.out.2.2)).trans HL.out.2.2, ⟨_, _, by rw [b4.cell]; rfl, hund.below k4⟩, HU.out.below k24⟩
    have PC := Lib.hid (contains_rows (fun r => matchB n l (Z r)) (.pointer (some ⟨lb, 0, none⟩)) (.pointer (some ⟨w3.heap.size, 0, none⟩)) a0 len cap A C Z (w3.alloc (.cells #[.func (.func 69) #[] #[.pointer (some ⟨ua, 0, none⟩), .pointer (some ⟨ub, 0, none⟩), .pointer (some ⟨uc, 0, none⟩)]] 93)) (K2.out.2.below k24) hl
      (fun wx hb r hr => match1 lb w3.heap.size n pv cv l (A r) (C r) (Z r) wx (hbox.below hb) HL.out.1 HL.out.2.1 (by
        obtain ⟨_, _, _, _, h⟩ := ((K2.out.2.below k24).below hb) r hr
        exact h)))
    have K4 := Lib.hid (K2.out.1.trans (k24.mono (by rw [← hgw]; exact K2.out.1.size)))
    generalize (List.range len).any (fun r => matchB n l (Z r)) = R at *
    clear hund hb3 b4 k4 k24 hbox hbx
    go_wp2_with fail
    refine PC.out.mono ?_
    rintro e w5 ⟨rfl, hb5⟩
    have KF := Lib.hid (K4.out.trans (hb5.mono (by rw [← hgw]; exact K4.out.size)))
    clear hb5
    go_wp2
    exact bodyPost_ret (results_tmp2 Tryd.results21 _ _ _) rfl ⟨HE.out.symm, by rw [hgw]; exact KF.out⟩
end Go.Proofs.YtgedpgdefafofaaDoor
end

section
/- SHA-256, plainly: words of 32 bits. No program in sight. -/
namespace Go.Proofs.YtgedpgdefafofaaDoor
open Go
set_option linter.unusedVariables false

abbrev B32 := BitVec 32
def ror (x : B32) (n : Nat) : B32 := x.rotateRight n
def sg0 (x : B32) : B32 := ror x 7 ^^^ ror x 18 ^^^ (x >>> 3)
def sg1 (x : B32) : B32 := ror x 17 ^^^ ror x 19 ^^^ (x >>> 10)
def Sg0 (x : B32) : B32 := ror x 2 ^^^ ror x 13 ^^^ ror x 22
def Sg1 (x : B32) : B32 := ror x 6 ^^^ ror x 11 ^^^ ror x 25
def chs (e f g : B32) : B32 := (e &&& f) ^^^ (~~~e &&& g)
def maj (a b c : B32) : B32 := (a &&& b) ^^^ (a &&& c) ^^^ (b &&& c)
theorem chs_alt (e f g : B32) : g ^^^ (e &&& (f ^^^ g)) = chs e f g := by
  unfold chs
  apply BitVec.eq_of_getLsbD_eq
  intro i hi
  simp only [BitVec.getLsbD_xor, BitVec.getLsbD_and, BitVec.getLsbD_not]
  cases e.getLsbD i <;> cases f.getLsbD i <;> cases g.getLsbD i <;> simp [hi]
theorem maj_alt (a b c : B32) : (a &&& b) ||| (c &&& (a ||| b)) = maj a b c := by
  unfold maj
  apply BitVec.eq_of_getLsbD_eq
  intro i hi
  simp only [BitVec.getLsbD_xor, BitVec.getLsbD_and, BitVec.getLsbD_or]
  cases a.getLsbD i <;> cases b.getLsbD i <;> cases c.getLsbD i <;> rfl
def shaK : List Nat := [
  0x428a2f98, 0x71374491, 0xb5c0fbcf, 0xe9b5dba5, 0x3956c25b, 0x59f111f1, 0x923f82a4, 0xab1c5ed5,
  0xd807aa98, 0x12835b01, 0x243185be, 0x550c7dc3, 0x72be5d74, 0x80deb1fe, 0x9bdc06a7, 0xc19bf174,
  0xe49b69c1, 0xefbe4786, 0x0fc19dc6, 0x240ca1cc, 0x2de92c6f, 0x4a7484aa, 0x5cb0a9dc, 0x76f988da,
  0x983e5152, 0xa831c66d, 0xb00327c8, 0xbf597fc7, 0xc6e00bf3, 0xd5a79147, 0x06ca6351, 0x14292967,
  0x27b70a85, 0x2e1b2138, 0x4d2c6dfc, 0x53380d13, 0x650a7354, 0x766a0abb, 0x81c2c92e, 0x92722c85,
  0xa2bfe8a1, 0xa81a664b, 0xc24b8b70, 0xc76c51a3, 0xd192e819, 0xd6990624, 0xf40e3585, 0x106aa070,
  0x19a4c116, 0x1e376c08, 0x2748774c, 0x34b0bcb5, 0x391c0cb3, 0x4ed8aa4a, 0x5b9cca4f, 0x682e6ff3,
  0x748f82ee, 0x78a5636f, 0x84c87814, 0x8cc70208, 0x90befffa, 0xa4506ceb, 0xbef9a3f7, 0xc67178f2]
def kw (i : Nat) : B32 := BitVec.ofNat 32 (shaK.getD i 0)
/-- the words of a block -/
def shw (m : Nat → B32) : Nat → B32
  | i => if h : i < 16 then m i else sg1 (shw m (i - 2)) + shw m (i - 7) + sg0 (shw m (i - 15)) + shw m (i - 16)
termination_by i => i
theorem shw_lo (m : Nat → B32) (i : Nat) (h : i < 16) : shw m i = m i := by rw [shw, dif_pos h]
theorem shw_hi (m : Nat → B32) (i : Nat) (h : 16 ≤ i) : shw m i = sg1 (shw m (i - 2)) + shw m (i - 7) + sg0 (shw m (i - 15)) + shw m (i - 16) := by rw [shw, dif_neg (by omega)]
def T1 (s : Nat → B32) (k w : B32) : B32 := s 7 + Sg1 (s 4) + chs (s 4) (s 5) (s 6) + k + w
def T2 (s : Nat → B32) : B32 := Sg0 (s 0) + maj (s 0) (s 1) (s 2)
def rnd (s : Nat → B32) (k w : B32) (i : Nat) : B32 := if i = 0 then T1 s k w + T2 s else if i = 4 then s 3 + T1 s k w else s (i - 1)
def rnds (m s : Nat → B32) : Nat → Nat → B32
  | 0 => s
  | i + 1 => rnd (rnds m s i) (kw i) (shw m i)
/-- a block is taken -/
def blockS (s m : Nat → B32) (i : Nat) : B32 := s i + rnds m s 64 i
/-- four bytes are a word, the highest first -/
def be4 (x0 x1 x2 x3 : Int) : B32 := BitVec.ofInt 32 (((x0 * 256 + x1) * 256 + x2) * 256 + x3)
/-- the words of 64 bytes at a place -/
def msgAt (bs : List Int) (at' : Nat) (i : Nat) : B32 := be4 (bs.getD (at' + 4 * i) 0) (bs.getD (at' + 4 * i + 1) 0) (bs.getD (at' + 4 * i + 2) 0) (bs.getD (at' + 4 * i + 3) 0)
def s0 (i : Nat) : B32 := BitVec.ofNat 32 ([0x6a09e667, 0xbb67ae85, 0x3c6ef372, 0xa54ff53a, 0x510e527f, 0x9b05688c, 0x1f83d9ab, 0x5be0cd19].getD i 0)
/-- so many blocks are taken -/
def blocksS (bs : List Int) : Nat → Nat → B32
  | 0 => s0
  | n + 1 => blockS (blocksS bs n) (msgAt bs (64 * n))
/-- how many noughts stand behind the byte 128 -/
def zpad (n : Nat) : Nat := (119 - n % 64) % 64
/-- the number of bits, the highest byte first -/
def bits8 (n : Nat) : List Int := (List.range 8).map fun i => (((n * 8) / 2 ^ (56 - 8 * i) % 256 : Nat) : Int)
def padS (bs : List Int) : List Int := bs ++ [128] ++ List.replicate (zpad bs.length) 0 ++ bits8 bs.length
theorem padS_length (bs : List Int) : (padS bs).length = bs.length + 1 + zpad bs.length + 8 := by simp [padS, bits8]; omega
theorem padS_mod (bs : List Int) : (padS bs).length % 64 = 0 := by rw [padS_length]; unfold zpad; omega
/-- bytes are a number, the lowest first -/
def hsum (f : Nat → Nat) : Nat → Nat
  | 0 => 0
  | n + 1 => hsum f n + 2 ^ (8 * n) * f n
def hashByte (s : Nat → B32) (i : Nat) : Nat := ((s (i / 4)).toNat / 2 ^ (24 - 8 * (i % 4))) % 256
/-- the hash, as a number whose lowest byte is the first one -/
def stHash (s : Nat → B32) : Nat := hsum (hashByte s) 32
def shaS (bs : List Int) : Nat := stHash (blocksS (padS bs) ((padS bs).length / 64))
end Go.Proofs.YtgedpgdefafofaaDoor
end

section
/- Words of 32 bits as Go's values. No program in sight. -/
namespace Go.Proofs.YtgedpgdefafofaaDoor
open Go
set_option linter.unusedVariables false

def iv (x : B32) : Int := (x.toNat : Int)
theorem iv_nonneg (x : B32) : 0 ≤ iv x := Int.natCast_nonneg _
theorem iv_lt (x : B32) : iv x < 4294967296 := by have := x.isLt; unfold iv; omega
theorem iv_add (a b : B32) : IntKind.u32.wrap (iv a + iv b) = iv (a + b) := by
  rw [IntKind.wrap_u32]; unfold iv; rw [BitVec.toNat_add]; omega
theorem iv_wrap (a : B32) : IntKind.u32.wrap (iv a) = iv a := by
  rw [IntKind.wrap_u32]; have := iv_nonneg a; have := iv_lt a; omega
theorem ofInt_iv (a : B32) : BitVec.ofInt 32 (iv a) = a := by unfold iv; rw [BitVec.ofInt_natCast, BitVec.ofNat_toNat]; simp
theorem iv_xor (a b : B32) : bits .xor .u32 (iv a) (iv b) = iv (a ^^^ b) := by
  show IntKind.u32.wrap ((BitVec.ofInt 32 (iv a) ^^^ BitVec.ofInt 32 (iv b)).toNat : Int) = _
  rw [ofInt_iv, ofInt_iv]; exact iv_wrap (a ^^^ b)
theorem iv_and (a b : B32) : bits .and .u32 (iv a) (iv b) = iv (a &&& b) := by
  show IntKind.u32.wrap ((BitVec.ofInt 32 (iv a) &&& BitVec.ofInt 32 (iv b)).toNat : Int) = _
  rw [ofInt_iv, ofInt_iv]; exact iv_wrap (a &&& b)
theorem iv_or (a b : B32) : bits .or .u32 (iv a) (iv b) = iv (a ||| b) := by
  show IntKind.u32.wrap ((BitVec.ofInt 32 (iv a) ||| BitVec.ofInt 32 (iv b)).toNat : Int) = _
  rw [ofInt_iv, ofInt_iv]; exact iv_wrap (a ||| b)
theorem iv_shr (a : B32) (n : Nat) : iv a / 2 ^ n = iv (a >>> n) := by
  unfold iv
  rw [BitVec.toNat_ushiftRight, Nat.shiftRight_eq_div_pow]
  simp
theorem iv_shl (a : B32) (n : Nat) : IntKind.u32.wrap (iv a * 2 ^ n) = iv (a <<< n) := by
  rw [IntKind.wrap_u32]; unfold iv
  rw [BitVec.toNat_shiftLeft, Nat.shiftLeft_eq]
  simp
theorem ror_or (x : B32) (n : Nat) (h : n < 32) : (x <<< (32 - n)) ||| (x >>> n) = ror x n := by
  unfold ror BitVec.rotateRight BitVec.rotateRightAux
  rw [Nat.mod_eq_of_lt h, BitVec.or_comm]
end Go.Proofs.YtgedpgdefafofaaDoor
end
