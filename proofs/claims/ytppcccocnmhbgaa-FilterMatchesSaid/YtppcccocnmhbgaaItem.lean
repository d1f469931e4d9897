/- An item's number, both sides. -/
import Derived.Test.YtppcccocnmhbgaaSip4
import Derived.Test.YtppcccocnmhbgaaSip6
import Derived.Test.YtppcccocnmhbgaaUnder
import Derived.Test.YtppcccocnmhbgaaOpenRows
import Derived.Test.YtppcccocnmhbgaaNum
namespace Go.Proofs.Ytppcccocnmhbgaa
open Go Go.RowKit
set_option linter.unusedSimpArgs false
set_option linter.unusedVariables false
set_option maxRecDepth 100000

/-- an item's number, of k, under a hash -/
def itemV (n k : Nat) (ys : List Int) : Nat := (sipS (bw (n % 18446744073709551616)) (bw (n / 18446744073709551616 % 18446744073709551616)) ys).toNat * (k * 784931) / 18446744073709551616
theorem itemV_lt (n k : Nat) (ys : List Int) : itemV n k ys ≤ k * 784931 := by
  unfold itemV
  have := (sipS (bw (n % 18446744073709551616)) (bw (n / 18446744073709551616 % 18446744073709551616)) ys).isLt
  exact Nat.div_le_of_le_mul (Nat.mul_le_mul_right _ (by omega))
theorem itemV_lt' (n k : Nat) (ys : List Int) (hk : 0 < k) : itemV n k ys < k * 784931 := by
  unfold itemV
  have := (sipS (bw (n % 18446744073709551616)) (bw (n / 18446744073709551616 % 18446744073709551616)) ys).isLt
  exact Nat.div_lt_of_lt_mul (Nat.mul_lt_mul_of_pos_right (by omega) (by omega))
set_option maxHeartbeats 1600000 in
theorem pval (n k a b c : Nat) (q : Option Addr) (cap : Nat) (ys : List Int) (w : World) (hk : k ≤ 20000) (hR : RowOf w (.slice q ys.length cap) q cap ys)
    (h0 : w.cell? ⟨a, 0, none⟩ = some (.int .u64 ((n % 2 ^ 64 : Nat) : Int))) (h1 : w.cell? ⟨b, 0, none⟩ = some (.int .u64 ((n / 2 ^ 64 % 2 ^ 64 : Nat) : Int))) (h2 : w.cell? ⟨c, 0, none⟩ = some (.int .i64 (k : Int))) :
    Calls Try.prog 63 #[.slice q ys.length cap, .pointer (some ⟨a, 0, none⟩), .pointer (some ⟨b, 0, none⟩), .pointer (some ⟨c, 0, none⟩)] w fun e w' => e = .returned (.int .u64 ((itemV n k ys : Nat) : Int)) ∧ Below w.heap.size w w' := by
  have hm0 : n % 18446744073709551616 < 18446744073709551616 := Nat.mod_lt _ (by decide)
  have hm1 : n / 18446744073709551616 % 18446744073709551616 < 18446744073709551616 := Nat.mod_lt _ (by decide)
  have PS := fun (wx : World) (hb : Below w.heap.size w wx) => psip (bw (n % 18446744073709551616)) (bw (n / 18446744073709551616 % 18446744073709551616)) ys q cap wx (hR.below hb).bytes hR.range hR.cap (by have := hR.most; omega) (by have := hR.len; omega)
  rw [lv_bw _ hm0, lv_bw _ hm1] at PS
  replace PS := Lib.hid PS
  have hkw : IntKind.u64.wrap ((k : Int) * 784931) = ((k * 784931 : Nat) : Int) := by rw [IntKind.wrap_u64]; omega
  have hku : IntKind.u64.wrap (k : Int) = (k : Int) := IntWalk.u64_in _ (by omega)
  have PC := fun (wx : World) => pscale (sipS (bw (n % 18446744073709551616)) (bw (n / 18446744073709551616 % 18446744073709551616)) ys).toNat (k * 784931) (BitVec.isLt _) (by omega) wx
  replace PC := Lib.hid (show ∀ wx : World, Calls Try.prog 64 #[.int .u64 (lv (sipS (bw (n % 18446744073709551616)) (bw (n / 18446744073709551616 % 18446744073709551616)) ys)), .int .u64 ((k * 784931 : Nat) : Int)] wx fun e w' => e = .returned (.int .u64 ((itemV n k ys : Nat) : Int)) ∧ w' = wx from PC)
  have e0 : w.cell? ⟨a, 0, none⟩ = some (.int .u64 ((n % 18446744073709551616 : Nat) : Int)) := h0
  have e1 : w.cell? ⟨b, 0, none⟩ = some (.int .u64 ((n / 18446744073709551616 % 18446744073709551616 : Nat) : Int)) := h1
  have HC := Lib.hid (And.intro (cell_lt e0) (And.intro (cell_lt e1) (cell_lt h2)))
  clear h0 h1 hR
  generalize itemV n k ys = V at *
  generalize sipS (bw (n % 18446744073709551616)) (bw (n / 18446744073709551616 % 18446744073709551616)) ys = SS at *
  generalize n % 18446744073709551616 = m0 at *
  generalize n / 18446744073709551616 % 18446744073709551616 = m1 at *
  generalize k * 784931 = km at *
  go_enter Try.func63, Try.ntmps63
  go_upto_region 1 with fail
  refine wp_region_held_drew (S := fun w' => Below w.heap.size w w') (by kernel_rfl) ((Below.refl _ _).drew) (fun hS => ?_)
  refine wpAnyH_take (i := 0) (oi := ⟨_, _, _, _, _, _⟩) (v := ?_) rfl (by kernel_rfl) (by kernel_rfl) (by kernel_rfl) (fun _ _ _ h => h) (Or.inl ⟨by rfl, ?_⟩) hS ?_
  rotate_left
  · intro w0 hs; have s0 := (hs.cell (p := ⟨a, 0, none⟩) HC.out.1).trans e0; have s1 := (hs.cell (p := ⟨b, 0, none⟩) HC.out.2.1).trans e1; have s2 := (hs.cell (p := ⟨c, 0, none⟩) HC.out.2.2).trans h2; clear hs; go_simp; try (with_reducible rfl)
  try simp only [Act.put, List.setIfInBounds_toArray, List.set_cons_zero, List.set_cons_succ]
  refine wpAnyH_take (i := 1) (oi := ⟨_, _, _, _, _, _⟩) (v := ?_) rfl (by kernel_rfl) (by kernel_rfl) (by kernel_rfl) (fun _ _ _ h => h) (Or.inl ⟨by rfl, ?_⟩) hS ?_
  rotate_left
  · intro w0 hs; have s0 := (hs.cell (p := ⟨a, 0, none⟩) HC.out.1).trans e0; have s1 := (hs.cell (p := ⟨b, 0, none⟩) HC.out.2.1).trans e1; have s2 := (hs.cell (p := ⟨c, 0, none⟩) HC.out.2.2).trans h2; clear hs; go_simp; try (with_reducible rfl)
  try simp only [Act.put, List.setIfInBounds_toArray, List.set_cons_zero, List.set_cons_succ]
  refine wpAnyH_take (i := 2) (oi := ⟨_, _, _, _, _, _⟩) (v := ?_) rfl (by kernel_rfl) (by kernel_rfl) (by kernel_rfl) (fun _ _ _ h => h) (Or.inl ⟨by rfl, ?_⟩) hS ?_
  rotate_left
  · intro w0 hs; have s0 := (hs.cell (p := ⟨a, 0, none⟩) HC.out.1).trans e0; have s1 := (hs.cell (p := ⟨b, 0, none⟩) HC.out.2.1).trans e1; have s2 := (hs.cell (p := ⟨c, 0, none⟩) HC.out.2.2).trans h2; clear hs; go_simp; try (with_reducible rfl)
  try simp only [Act.put, List.setIfInBounds_toArray, List.set_cons_zero, List.set_cons_succ]
  refine wpAnyH_take (i := 4) (oi := ⟨_, _, _, _, _, _⟩) (v := ?_) rfl (by kernel_rfl) (by kernel_rfl) (by kernel_rfl) (fun _ _ _ h => h) (Or.inl ⟨by rfl, ?_⟩) hS ?_
  rotate_left
  · intro w0 hs; have s0 := (hs.cell (p := ⟨a, 0, none⟩) HC.out.1).trans e0; have s1 := (hs.cell (p := ⟨b, 0, none⟩) HC.out.2.1).trans e1; have s2 := (hs.cell (p := ⟨c, 0, none⟩) HC.out.2.2).trans h2; clear hs; go_simp; try (with_reducible rfl)
  try simp only [Act.put, List.setIfInBounds_toArray, List.set_cons_zero, List.set_cons_succ]
  refine wpAnyH_take (i := 5) (oi := ⟨_, _, _, _, _, _⟩) (v := ?_) rfl (by kernel_rfl) (by kernel_rfl) (by kernel_rfl) (fun _ _ _ h => h) (Or.inl ⟨by rfl, ?_⟩) hS ?_
  rotate_left
  · intro w0 hs; have s0 := (hs.cell (p := ⟨a, 0, none⟩) HC.out.1).trans e0; have s1 := (hs.cell (p := ⟨b, 0, none⟩) HC.out.2.1).trans e1; have s2 := (hs.cell (p := ⟨c, 0, none⟩) HC.out.2.2).trans h2; clear hs; go_simp; try (with_reducible rfl)
  try simp only [Act.put, List.setIfInBounds_toArray, List.set_cons_zero, List.set_cons_succ]
  refine wpAnyH_take (i := 6) (oi := ⟨_, _, _, _, _, _⟩) (v := ?_) rfl (by kernel_rfl) (by kernel_rfl) (by kernel_rfl) (fun _ _ _ h => h) (Or.inl ⟨by rfl, ?_⟩) hS ?_
  rotate_left
  · intro w0 hs; have s0 := (hs.cell (p := ⟨a, 0, none⟩) HC.out.1).trans e0; have s1 := (hs.cell (p := ⟨b, 0, none⟩) HC.out.2.1).trans e1; have s2 := (hs.cell (p := ⟨c, 0, none⟩) HC.out.2.2).trans h2; clear hs; go_simp; try (with_reducible rfl)
  try simp only [Act.put, List.setIfInBounds_toArray, List.set_cons_zero, List.set_cons_succ]
  refine wpAnyH_ready (rs := [3]) (by kernel_rfl) (by simp) ?_
  refine AllReadyH.cons (o := ⟨_, _, _, _, _, _⟩) rfl (fun K hK => ?_) AllReadyH.nil
  rw [if_pos (by rfl)]
  go_step
  refine (PS.out _ hS).mono ?_
  rintro e v1 ⟨rfl, hv1⟩
  simp only []
  refine hK.out _ _ (hS.trans (hv1.mono hS.size)) (fun hS' => ?_)
  clear hS hK
  have hS := hS'; clear hS'
  try simp only [Act.put, List.setIfInBounds_toArray, List.set_cons_zero, List.set_cons_succ]
  refine wpAnyH_ready (rs := [7]) (by kernel_rfl) (by simp) ?_
  refine AllReadyH.cons (o := ⟨_, _, _, _, _, _⟩) rfl (fun K hK => ?_) AllReadyH.nil
  rw [if_pos (by rfl)]
  go_step
  refine (PC.out _).mono ?_
  rintro e v2 ⟨rfl, rfl⟩
  simp only []
  refine hK.out _ _ hS (fun hS' => ?_)
  clear hS hK
  have hS := hS'; clear hS'
  try simp only [Act.put, List.setIfInBounds_toArray, List.set_cons_zero, List.set_cons_succ]
  refine wpAnyH_take (i := 8) (oi := ⟨_, _, _, _, _, _⟩) (v := ?_) rfl (by kernel_rfl) (by kernel_rfl) (by kernel_rfl) (fun _ _ _ h => h) (Or.inl ⟨by rfl, ?_⟩) hS ?_
  rotate_left
  · intro w0 hs; have s0 := (hs.cell (p := ⟨a, 0, none⟩) HC.out.1).trans e0; have s1 := (hs.cell (p := ⟨b, 0, none⟩) HC.out.2.1).trans e1; have s2 := (hs.cell (p := ⟨c, 0, none⟩) HC.out.2.2).trans h2; clear hs; go_simp; try (with_reducible rfl)
  try simp only [Act.put, List.setIfInBounds_toArray, List.set_cons_zero, List.set_cons_succ]
  refine wpAnyH_done (by kernel_rfl) ?_ _
  have HS := Lib.hid hS
  clear hS
  go_wp2
  go_ret
  exact ⟨rfl, HS.out⟩
theorem rnum_of {w : World} {g n : Nat} {t : TypeId} (h : Blk w g (hcs n) t) (a c : Nat) (hk : a + 8 ≤ 32) : Calls Try.prog 71 #[.slice (some ⟨g, a, none⟩) 8 c] w fun e w' => e = .returned (.int .u64 ((n / 2 ^ (8 * a) % 2 ^ 64 : Nat) : Int)) ∧ w = w' := by
  have := rnum _ (some ⟨g, a, none⟩) c w (hbytes_sub h a 8 hk) (fun y hy => by
    obtain ⟨j, _, rfl⟩ := List.mem_map.1 hy
    have := byt_range n (a + j); omega) (by simp)
  rw [leN_bytes, show ((List.range 8).map fun j => byt n (a + j)).length = 8 from by simp] at this
  exact this
set_option maxHeartbeats 1600000 in
theorem rval (n k : Nat) (q : Option Addr) (cap : Nat) (ys : List Int) (w : World) (hk : k ≤ 20000) (hR : RowOf w (.slice q ys.length cap) q cap ys) :
    Calls Try.prog 39 #[hv n, .slice q ys.length cap, .int .i64 (k : Int)] w fun e w' => e = .returned (.int .u64 ((itemV n k ys : Nat) : Int)) ∧ Below w.heap.size w w' := by
  have hm0 : n % 18446744073709551616 < 18446744073709551616 := Nat.mod_lt _ (by decide)
  have hm1 : n / 18446744073709551616 % 18446744073709551616 < 18446744073709551616 := Nat.mod_lt _ (by decide)
  have PS := fun (wx : World) (hb : Below w.heap.size w wx) => rsip (bw (n % 18446744073709551616)) (bw (n / 18446744073709551616 % 18446744073709551616)) ys q cap wx (hR.below hb).bytes hR.range (by have := hR.len; omega)
  rw [lv_bw _ hm0, lv_bw _ hm1] at PS
  replace PS := Lib.hid PS
  have hkw : IntKind.u64.wrap ((k : Int) * 784931) = ((k * 784931 : Nat) : Int) := by rw [IntKind.wrap_u64]; omega
  have hku : IntKind.u64.wrap (k : Int) = (k : Int) := IntWalk.u64_in _ (by omega)
  have PC := fun (wx : World) => rscale (sipS (bw (n % 18446744073709551616)) (bw (n / 18446744073709551616 % 18446744073709551616)) ys).toNat (k * 784931) (BitVec.isLt _) (by omega) wx
  replace PC := Lib.hid (show ∀ wx : World, Calls Try.prog 72 #[.int .u64 (lv (sipS (bw (n % 18446744073709551616)) (bw (n / 18446744073709551616 % 18446744073709551616)) ys)), .int .u64 ((k * 784931 : Nat) : Int)] wx fun e w' => e = .returned (.int .u64 ((itemV n k ys : Nat) : Int)) ∧ w' = wx from PC)
  have BN := Lib.hid (Blk.new w (hcs n) 23)
  have KN := Lib.hid ((Below.refl w.heap.size w).alloc (Nat.le_refl _) (.cells (hcs n) 23))
  have P0 := Lib.hid (fun w' (hS : Blk w' w.heap.size (hcs n) 23) => rnum_of hS 0 32 (by decide))
  have P1 := Lib.hid (fun w' (hS : Blk w' w.heap.size (hcs n) 23) => rnum_of hS 8 24 (by decide))
  rw [show n / 2 ^ (8 * 0) % 2 ^ 64 = n % 18446744073709551616 from by rw [Nat.mul_zero, Nat.pow_zero, Nat.div_one]] at P0
  rw [show n / 2 ^ (8 * 8) % 2 ^ 64 = n / 18446744073709551616 % 18446744073709551616 from rfl] at P1
  clear hR
  generalize itemV n k ys = V at *
  generalize sipS (bw (n % 18446744073709551616)) (bw (n / 18446744073709551616 % 18446744073709551616)) ys = SS at *
  generalize n % 18446744073709551616 = m0 at *
  generalize n / 18446744073709551616 % 18446744073709551616 = m1 at *
  generalize k * 784931 = km at *
  go_enter Try.func39, Try.ntmps39
  go_upto_region 1 with fail
  generalize w.alloc (.cells (hcs n) 23) = W at *
  generalize hgw : w.heap.size = g at *
  refine wp_region_held_drew (S := fun w' => w' = W.drew) (by kernel_rfl) rfl (fun hS => ?_)
  refine wpAnyH_take (i := 0) (oi := ⟨_, _, _, _, _, _⟩) (v := ?_) rfl (by kernel_rfl) (by kernel_rfl) (by kernel_rfl) (fun _ _ _ h => h) (Or.inl ⟨by rfl, ?_⟩) hS ?_
  rotate_left
  · intro w0 hs; subst hs; go_simp; try (with_reducible rfl)
  try simp only [Act.put, List.setIfInBounds_toArray, List.set_cons_zero, List.set_cons_succ]
  refine wpAnyH_take (i := 2) (oi := ⟨_, _, _, _, _, _⟩) (v := ?_) rfl (by kernel_rfl) (by kernel_rfl) (by kernel_rfl) (fun _ _ _ h => h) (Or.inl ⟨by rfl, ?_⟩) hS ?_
  rotate_left
  · intro w0 hs; subst hs; go_simp; try (with_reducible rfl)
  try simp only [Act.put, List.setIfInBounds_toArray, List.set_cons_zero, List.set_cons_succ]
  refine wpAnyH_ready (rs := [1]) (by kernel_rfl) (by simp) ?_
  refine AllReadyH.cons (o := ⟨_, _, _, _, _, _⟩) rfl (fun K hK => ?_) AllReadyH.nil
  rw [if_pos (by rfl)]
  go_step
  refine (P0.out _ BN.out.drew).mono ?_
  rintro e v1 ⟨rfl, rfl⟩
  simp only []
  refine hK.out _ _ rfl (fun hS' => ?_)
  clear hS hK
  have hS := hS'; clear hS'
  try simp only [Act.put, List.setIfInBounds_toArray, List.set_cons_zero, List.set_cons_succ]
  refine wpAnyH_ready (rs := [3]) (by kernel_rfl) (by simp) ?_
  refine AllReadyH.cons (o := ⟨_, _, _, _, _, _⟩) rfl (fun K hK => ?_) AllReadyH.nil
  rw [if_pos (by rfl)]
  go_step
  refine (P1.out _ BN.out.drew).mono ?_
  rintro e v2 ⟨rfl, rfl⟩
  simp only []
  refine hK.out _ _ rfl (fun hS' => ?_)
  clear hS hK
  have hS := hS'; clear hS'
  try simp only [Act.put, List.setIfInBounds_toArray, List.set_cons_zero, List.set_cons_succ]
  refine wpAnyH_take (i := 4) (oi := ⟨_, _, _, _, _, _⟩) (v := ?_) rfl (by kernel_rfl) (by kernel_rfl) (by kernel_rfl) (fun _ _ _ h => h) (Or.inl ⟨by rfl, ?_⟩) hS ?_
  rotate_left
  · intro w0 hs; subst hs; go_simp; try (with_reducible rfl)
  try simp only [Act.put, List.setIfInBounds_toArray, List.set_cons_zero, List.set_cons_succ]
  refine wpAnyH_take (i := 5) (oi := ⟨_, _, _, _, _, _⟩) (v := ?_) rfl (by kernel_rfl) (by kernel_rfl) (by kernel_rfl) (fun _ _ _ h => h) (Or.inl ⟨by rfl, ?_⟩) hS ?_
  rotate_left
  · intro w0 hs; subst hs; go_simp; try (with_reducible rfl)
  try simp only [Act.put, List.setIfInBounds_toArray, List.set_cons_zero, List.set_cons_succ]
  refine wpAnyH_done (by kernel_rfl) ?_ _
  clear hS
  have KD := KN.out.drew
  have PS2 := Lib.hid (PS.out _ (by rw [← hgw] at KD ⊢; exact KD))
  go_wp2_with fail
  refine PS2.out.mono ?_
  rintro e w3 ⟨rfl, hb3⟩
  have HF := Lib.hid (KD.trans (hb3.mono (by rw [← hgw]; exact KD.size)))
  have PC2 := Lib.hid (PC.out w3)
  clear hb3
  go_wp2_with fail
  refine PC2.out.mono ?_
  rintro e w4 ⟨rfl, rfl⟩
  go_wp2
  go_ret
  exact ⟨rfl, by rw [hgw]; exact HF.out⟩
end Go.Proofs.Ytppcccocnmhbgaa
