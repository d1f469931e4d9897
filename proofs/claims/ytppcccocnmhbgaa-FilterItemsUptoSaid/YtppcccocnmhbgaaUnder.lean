/- The closure that filter.under makes. -/
import Derived.Test.YtppcccocnmhbgaaTwo
namespace Go.Proofs.Ytppcccocnmhbgaa
open Go Go.RowKit
set_option linter.unusedSimpArgs false
set_option linter.unusedVariables false
set_option maxRecDepth 100000

/-- the low bytes of a hash, as words -/
theorem hbytes_sub {w : World} {g n : Nat} {t : TypeId} (h : Blk w g (hcs n) t) (a k : Nat) (hk : a + k ≤ 32) : Lib.BytesIn w (some ⟨g, a, none⟩) ((List.range k).map fun j => byt n (a + j)).length ((List.range k).map fun j => byt n (a + j)) := Lib.BytesIn.of_cells fun i hi => by
  simp at hi
  rw [Addr.add_lit, h.cell, hcs_get n (a + i) (by omega), List.getD_eq_getElem?_getD]
  simp [hi]
theorem leN_bytes (n a : Nat) : ∀ k, leN ((List.range k).map fun j => byt n (a + j)) = n / 2 ^ (8 * a) % 2 ^ (8 * k)
  | 0 => by simp [leN, Nat.mod_one]
  | k + 1 => by
    rw [List.range_succ, List.map_append, List.map_singleton, leN_snoc, leN_bytes n a k, List.length_map, List.length_range, mod_byte, pow256]
    congr 2
    rw [byt_eq, Int.toNat_natCast]
    unfold bn
    rw [Nat.div_div_eq_div_mul, ← Nat.pow_add]
    congr 3; omega
theorem word_of {w : World} {g n : Nat} {t : TypeId} (h : Blk w g (hcs n) t) (a c : Nat) (hk : a + 8 ≤ 32) : Calls Try.prog 62 #[.slice (some ⟨g, a, none⟩) 8 c] w fun e w' => e = .returned (.int .u64 ((n / 2 ^ (8 * a) % 2 ^ 64 : Nat) : Int)) ∧ w = w' := by
  have := pword _ (some ⟨g, a, none⟩) c w (hbytes_sub h a 8 hk) (fun y hy => by
    obtain ⟨j, _, rfl⟩ := List.mem_map.1 hy
    have := byt_range n (a + j); omega) (by simp)
  rw [leN_bytes, show ((List.range 8).map fun j => byt n (a + j)).length = 8 from by simp] at this
  exact this
/-- what 'under' gave: the closure with its three variables -/
def UnderAt (w : World) (v : Value) (n k B : Nat) : Prop := ∃ a b c, v = .func (.func 63) #[] #[.pointer (some ⟨a, 0, none⟩), .pointer (some ⟨b, 0, none⟩), .pointer (some ⟨c, 0, none⟩)] ∧
  B ≤ a ∧ B ≤ b ∧ B ≤ c ∧ w.cell? ⟨a, 0, none⟩ = some (.int .u64 ((n % 2 ^ 64 : Nat) : Int)) ∧ w.cell? ⟨b, 0, none⟩ = some (.int .u64 ((n / 2 ^ 64 % 2 ^ 64 : Nat) : Int)) ∧ w.cell? ⟨c, 0, none⟩ = some (.int .i64 (k : Int))
set_option maxHeartbeats 3200000 in
theorem under_any (n k : Nat) (w : World) : Calls Try.prog 32 #[hv n, .int .i64 (k : Int)] w fun e w' => ∃ v, e = .returned v ∧ UnderAt w' v n k w.heap.size ∧ Below w.heap.size w w' := by
  have L := two_blocks w (hcs n) #[.int .i64 (k : Int)] 23 3
  have hs2 : ((w.alloc (.cells (hcs n) 23)).alloc (.cells #[.int .i64 (k : Int)] 3)).heap.size = w.heap.size + 2 := by simp
  have HL := Lib.hid (And.intro L hs2)
  clear L hs2
  go_enter Try.func32, Try.ntmps32
  go_upto_region 2 with fail
  generalize (w.alloc (.cells (hcs n) 23)).alloc (.cells #[.int .i64 (k : Int)] 3) = W at *
  generalize hgw : w.heap.size = hb at *
  have P0 := Lib.hid (fun w' (hS : Below W.heap.size W w') => word_of (HL.out.1.1.beyond hS) 0 32 (by decide))
  have P1 := Lib.hid (fun w' (hS : Below W.heap.size W w') => word_of (HL.out.1.1.beyond hS) 8 24 (by decide))
  rw [show n / 2 ^ (8 * 0) % 2 ^ 64 = n % 2 ^ 64 from by rw [Nat.mul_zero, Nat.pow_zero, Nat.div_one]] at P0
  rw [show n / 2 ^ (8 * 8) % 2 ^ 64 = n / 2 ^ 64 % 2 ^ 64 from rfl] at P1
  have U : ∀ a b w' , W.heap.size ≤ a → W.heap.size ≤ b → Below W.heap.size W w' → w'.cell? ⟨a, 0, none⟩ = some (.int .u64 ((n % 2 ^ 64 : Nat) : Int)) → w'.cell? ⟨b, 0, none⟩ = some (.int .u64 ((n / 2 ^ 64 % 2 ^ 64 : Nat) : Int)) →
      UnderAt w' (.func (.func 63) #[] #[.pointer (some ⟨a, 0, none⟩), .pointer (some ⟨b, 0, none⟩), .pointer (some ⟨hb + 1, 0, none⟩)]) n k hb ∧ Below hb w w' := fun a b w' ha hb' hS h1 h2 => by
    have hz := HL.out.2
    refine ⟨⟨a, b, hb + 1, rfl, by omega, by omega, by omega, h1, h2, ?_⟩, HL.out.1.2.2.trans (hS.mono (by omega))⟩
    rw [(HL.out.1.2.1.beyond hS).cell]; rfl
  have HU := Lib.hid U
  clear U
  generalize hn0 : n % 2 ^ 64 = n0 at *
  generalize hn1 : n / 2 ^ 64 % 2 ^ 64 = n1 at *
  refine wp_region_held_drew (S := fun w' => Below W.heap.size W w') (by kernel_rfl) ((Below.refl _ _).drew) (fun hS => ?_)
  refine wpAnyH_take (i := 0) (oi := ⟨_, _, _, _, _, _⟩) (v := ?_) rfl (by kernel_rfl) (by kernel_rfl) (by kernel_rfl) (fun _ _ _ h => h) (Or.inl ⟨by rfl, ?_⟩) hS ?_
  rotate_left
  · intro w0 hs; clear hs; go_simp; try (with_reducible rfl)
  try simp only [Act.put, List.setIfInBounds_toArray, List.set_cons_zero, List.set_cons_succ]
  refine wpAnyH_take (i := 1) (oi := ⟨_, _, _, _, _, _⟩) (v := ?_) rfl (by kernel_rfl) (by kernel_rfl) (by kernel_rfl) (fun _ _ _ h => h) (Or.inl ⟨by rfl, ?_⟩) hS ?_
  rotate_left
  · intro w0 hs; clear hs; go_simp; try (with_reducible rfl)
  try simp only [Act.put, List.setIfInBounds_toArray, List.set_cons_zero, List.set_cons_succ]
  refine wpAnyH_take (i := 3) (oi := ⟨_, _, _, _, _, _⟩) (v := ?_) rfl (by kernel_rfl) (by kernel_rfl) (by kernel_rfl) (fun _ _ _ h => h) (Or.inl ⟨by rfl, ?_⟩) hS ?_
  rotate_left
  · intro w0 hs; clear hs; go_simp; try (with_reducible rfl)
  try simp only [Act.put, List.setIfInBounds_toArray, List.set_cons_zero, List.set_cons_succ]
  refine wpAnyH_take (i := 4) (oi := ⟨_, _, _, _, _, _⟩) (v := ?_) rfl (by kernel_rfl) (by kernel_rfl) (by kernel_rfl) (fun _ _ _ h => h) (Or.inl ⟨by rfl, ?_⟩) hS ?_
  rotate_left
  · intro w0 hs; clear hs; go_simp; try (with_reducible rfl)
  try simp only [Act.put, List.setIfInBounds_toArray, List.set_cons_zero, List.set_cons_succ]
  refine wpAnyH_ready (rs := [2, 6, 7]) (by kernel_rfl) (by simp) ?_
  refine AllReadyH.cons (o := ⟨_, _, _, _, _, _⟩) rfl (fun K hK => ?_) (AllReadyH.cons (o := ⟨_, _, _, _, _, _⟩) rfl (fun K hK => ?_) (AllReadyH.cons (o := ⟨_, _, _, _, _, _⟩) rfl (fun K hK => ?_) AllReadyH.nil))
  · rw [if_pos (by rfl)]
    go_step
    refine (P0.out _ hS).mono ?_
    rintro e w1 ⟨rfl, rfl⟩
    simp only []
    refine hK.out _ _ hS (fun hS' => ?_)
    clear hS hK
    have hS := hS'; clear hS'
    try simp only [Act.put, List.setIfInBounds_toArray, List.set_cons_zero, List.set_cons_succ]
    refine wpAnyH_ready (rs := [5, 6, 7]) (by kernel_rfl) (by simp) ?_
    refine AllReadyH.cons (o := ⟨_, _, _, _, _, _⟩) rfl (fun K hK => ?_) (AllReadyH.cons (o := ⟨_, _, _, _, _, _⟩) rfl (fun K hK => ?_) (AllReadyH.cons (o := ⟨_, _, _, _, _, _⟩) rfl (fun K hK => ?_) AllReadyH.nil))
    · rw [if_pos (by rfl)]
      go_step
      refine (P1.out _ hS).mono ?_
      rintro e w2 ⟨rfl, rfl⟩
      simp only []
      refine hK.out _ _ hS (fun hS' => ?_)
      clear hS hK
      have hS := hS'; clear hS'
      try simp only [Act.put, List.setIfInBounds_toArray, List.set_cons_zero, List.set_cons_succ]
      refine wpAnyH_ready (rs := [6, 7]) (by kernel_rfl) (by simp) ?_
      refine AllReadyH.cons (o := ⟨_, _, _, _, _, _⟩) rfl (fun K hK => ?_) (AllReadyH.cons (o := ⟨_, _, _, _, _, _⟩) rfl (fun K hK => ?_) AllReadyH.nil)
      · rw [if_pos (by rfl)]
        go_simp
        refine hK.out _ _ (hS.alloc hS.size _) (fun hS' => ?_)
        clear hS hK
        have hS := hS'; clear hS'
        try simp only [Act.put, List.setIfInBounds_toArray, List.set_cons_zero, List.set_cons_succ]
        refine wpAnyH_ready (rs := [7]) (by kernel_rfl) (by simp) ?_
        refine AllReadyH.cons (o := ⟨_, _, _, _, _, _⟩) rfl (fun K hK => ?_) AllReadyH.nil
        rw [if_pos (by rfl)]
        go_simp
        refine hK.out _ _ (hS.alloc hS.size _) (fun hS' => ?_)
        clear hS hK
        have hS := hS'; clear hS'
        try simp only [Act.put, List.setIfInBounds_toArray, List.set_cons_zero, List.set_cons_succ]
        refine wpAnyH_ready (rs := [8]) (by kernel_rfl) (by simp) ?_
        refine AllReadyH.cons (o := ⟨_, _, _, _, _, _⟩) rfl (fun K hK => ?_) AllReadyH.nil
        rw [if_pos (by rfl)]
        go_simp
        refine hK.out _ _ ((((Below.refl _ W).alloc (Nat.le_refl _) _).alloc (by simp) _).drew) (fun hS' => ?_)
        clear hS hK
        have hS := hS'; clear hS'
        try simp only [Act.put, List.setIfInBounds_toArray, List.set_cons_zero, List.set_cons_succ]
        refine wpAnyH_ready (rs := [9]) (by kernel_rfl) (by simp) ?_
        refine AllReadyH.cons (o := ⟨_, _, _, _, _, _⟩) rfl (fun K hK => ?_) AllReadyH.nil
        rw [if_pos (by rfl)]
        go_simp
        refine hK.out _ _ ((((Below.refl _ W).alloc (Nat.le_refl _) _).alloc (by simp) _).drew) (fun hS' => ?_)
        clear hS hK
        have hS := hS'; clear hS'
        try simp only [Act.put, List.setIfInBounds_toArray, List.set_cons_zero, List.set_cons_succ]
        refine wpAnyH_done (by kernel_rfl) ?_ _
        go_wp2
        go_ret
        subst hgw
        have ha : ∀ x y z : Value, ((W.alloc (.cells #[x] 52)).alloc (.cells #[y] 52)).drew.cell? ⟨W.heap.size, 0, none⟩ = some x := fun x y z => by simp
        have hc : ∀ x y z : Value, ((W.alloc (.cells #[x] 52)).alloc (.cells #[y] 52)).drew.cell? ⟨W.heap.size + 1, 0, none⟩ = some y := fun x y z => by simp
        first | (refine ⟨_, ?_, HU.out W.heap.size (W.heap.size + 1) _ (Nat.le_refl _) (Nat.le_succ _) hS (ha _ _ undef) (hc _ _ undef)⟩; exact rfl) | (refine ⟨_, ?_, HU.out (W.heap.size + 1) W.heap.size _ (Nat.le_succ _) (Nat.le_refl _) hS (hc _ _ undef) (ha _ _ undef)⟩; exact rfl)
      · rw [if_pos (by rfl)]
        go_simp
        refine hK.out _ _ (hS.alloc hS.size _) (fun hS' => ?_)
        clear hS hK
        have hS := hS'; clear hS'
        try simp only [Act.put, List.setIfInBounds_toArray, List.set_cons_zero, List.set_cons_succ]
        refine wpAnyH_ready (rs := [6]) (by kernel_rfl) (by simp) ?_
        refine AllReadyH.cons (o := ⟨_, _, _, _, _, _⟩) rfl (fun K hK => ?_) AllReadyH.nil
        rw [if_pos (by rfl)]
        go_simp
        refine hK.out _ _ (hS.alloc hS.size _) (fun hS' => ?_)
        clear hS hK
        have hS := hS'; clear hS'
        try simp only [Act.put, List.setIfInBounds_toArray, List.set_cons_zero, List.set_cons_succ]
        refine wpAnyH_ready (rs := [8]) (by kernel_rfl) (by simp) ?_
        refine AllReadyH.cons (o := ⟨_, _, _, _, _, _⟩) rfl (fun K hK => ?_) AllReadyH.nil
        rw [if_pos (by rfl)]
        go_simp
        refine hK.out _ _ ((((Below.refl _ W).alloc (Nat.le_refl _) _).alloc (by simp) _).drew) (fun hS' => ?_)
        clear hS hK
        have hS := hS'; clear hS'
        try simp only [Act.put, List.setIfInBounds_toArray, List.set_cons_zero, List.set_cons_succ]
        refine wpAnyH_ready (rs := [9]) (by kernel_rfl) (by simp) ?_
        refine AllReadyH.cons (o := ⟨_, _, _, _, _, _⟩) rfl (fun K hK => ?_) AllReadyH.nil
        rw [if_pos (by rfl)]
        go_simp
        refine hK.out _ _ ((((Below.refl _ W).alloc (Nat.le_refl _) _).alloc (by simp) _).drew) (fun hS' => ?_)
        clear hS hK
        have hS := hS'; clear hS'
        try simp only [Act.put, List.setIfInBounds_toArray, List.set_cons_zero, List.set_cons_succ]
        refine wpAnyH_done (by kernel_rfl) ?_ _
        go_wp2
        go_ret
        subst hgw
        have ha : ∀ x y z : Value, ((W.alloc (.cells #[x] 52)).alloc (.cells #[y] 52)).drew.cell? ⟨W.heap.size, 0, none⟩ = some x := fun x y z => by simp
        have hc : ∀ x y z : Value, ((W.alloc (.cells #[x] 52)).alloc (.cells #[y] 52)).drew.cell? ⟨W.heap.size + 1, 0, none⟩ = some y := fun x y z => by simp
        first | (refine ⟨_, ?_, HU.out W.heap.size (W.heap.size + 1) _ (Nat.le_refl _) (Nat.le_succ _) hS (ha _ _ undef) (hc _ _ undef)⟩; exact rfl) | (refine ⟨_, ?_, HU.out (W.heap.size + 1) W.heap.size _ (Nat.le_succ _) (Nat.le_refl _) hS (hc _ _ undef) (ha _ _ undef)⟩; exact rfl)
    · rw [if_pos (by rfl)]
      go_simp
      refine hK.out _ _ (hS.alloc hS.size _) (fun hS' => ?_)
      clear hS hK
      have hS := hS'; clear hS'
      try simp only [Act.put, List.setIfInBounds_toArray, List.set_cons_zero, List.set_cons_succ]
      refine wpAnyH_ready (rs := [5, 7]) (by kernel_rfl) (by simp) ?_
      refine AllReadyH.cons (o := ⟨_, _, _, _, _, _⟩) rfl (fun K hK => ?_) (AllReadyH.cons (o := ⟨_, _, _, _, _, _⟩) rfl (fun K hK => ?_) AllReadyH.nil)
      · rw [if_pos (by rfl)]
        go_step
        refine (P1.out _ hS).mono ?_
        rintro e w3 ⟨rfl, rfl⟩
        simp only []
        refine hK.out _ _ hS (fun hS' => ?_)
        clear hS hK
        have hS := hS'; clear hS'
        try simp only [Act.put, List.setIfInBounds_toArray, List.set_cons_zero, List.set_cons_succ]
        refine wpAnyH_ready (rs := [7]) (by kernel_rfl) (by simp) ?_
        refine AllReadyH.cons (o := ⟨_, _, _, _, _, _⟩) rfl (fun K hK => ?_) AllReadyH.nil
        rw [if_pos (by rfl)]
        go_simp
        refine hK.out _ _ (hS.alloc hS.size _) (fun hS' => ?_)
        clear hS hK
        have hS := hS'; clear hS'
        try simp only [Act.put, List.setIfInBounds_toArray, List.set_cons_zero, List.set_cons_succ]
        refine wpAnyH_ready (rs := [8]) (by kernel_rfl) (by simp) ?_
        refine AllReadyH.cons (o := ⟨_, _, _, _, _, _⟩) rfl (fun K hK => ?_) AllReadyH.nil
        rw [if_pos (by rfl)]
        go_simp
        refine hK.out _ _ ((((Below.refl _ W).alloc (Nat.le_refl _) _).alloc (by simp) _).drew) (fun hS' => ?_)
        clear hS hK
        have hS := hS'; clear hS'
        try simp only [Act.put, List.setIfInBounds_toArray, List.set_cons_zero, List.set_cons_succ]
        refine wpAnyH_ready (rs := [9]) (by kernel_rfl) (by simp) ?_
        refine AllReadyH.cons (o := ⟨_, _, _, _, _, _⟩) rfl (fun K hK => ?_) AllReadyH.nil
        rw [if_pos (by rfl)]
        go_simp
        refine hK.out _ _ ((((Below.refl _ W).alloc (Nat.le_refl _) _).alloc (by simp) _).drew) (fun hS' => ?_)
        clear hS hK
        have hS := hS'; clear hS'
        try simp only [Act.put, List.setIfInBounds_toArray, List.set_cons_zero, List.set_cons_succ]
        refine wpAnyH_done (by kernel_rfl) ?_ _
        go_wp2
        go_ret
        subst hgw
        have ha : ∀ x y z : Value, ((W.alloc (.cells #[x] 52)).alloc (.cells #[y] 52)).drew.cell? ⟨W.heap.size, 0, none⟩ = some x := fun x y z => by simp
        have hc : ∀ x y z : Value, ((W.alloc (.cells #[x] 52)).alloc (.cells #[y] 52)).drew.cell? ⟨W.heap.size + 1, 0, none⟩ = some y := fun x y z => by simp
        first | (refine ⟨_, ?_, HU.out W.heap.size (W.heap.size + 1) _ (Nat.le_refl _) (Nat.le_succ _) hS (ha _ _ undef) (hc _ _ undef)⟩; exact rfl) | (refine ⟨_, ?_, HU.out (W.heap.size + 1) W.heap.size _ (Nat.le_succ _) (Nat.le_refl _) hS (hc _ _ undef) (ha _ _ undef)⟩; exact rfl)
      · rw [if_pos (by rfl)]
        go_simp
        refine hK.out _ _ (hS.alloc hS.size _) (fun hS' => ?_)
        clear hS hK
        have hS := hS'; clear hS'
        try simp only [Act.put, List.setIfInBounds_toArray, List.set_cons_zero, List.set_cons_succ]
        refine wpAnyH_ready (rs := [5]) (by kernel_rfl) (by simp) ?_
        refine AllReadyH.cons (o := ⟨_, _, _, _, _, _⟩) rfl (fun K hK => ?_) AllReadyH.nil
        rw [if_pos (by rfl)]
        go_step
        refine (P1.out _ hS).mono ?_
        rintro e w4 ⟨rfl, rfl⟩
        simp only []
        refine hK.out _ _ hS (fun hS' => ?_)
        clear hS hK
        have hS := hS'; clear hS'
        try simp only [Act.put, List.setIfInBounds_toArray, List.set_cons_zero, List.set_cons_succ]
        refine wpAnyH_ready (rs := [8]) (by kernel_rfl) (by simp) ?_
        refine AllReadyH.cons (o := ⟨_, _, _, _, _, _⟩) rfl (fun K hK => ?_) AllReadyH.nil
        rw [if_pos (by rfl)]
        go_simp
        refine hK.out _ _ ((((Below.refl _ W).alloc (Nat.le_refl _) _).alloc (by simp) _).drew) (fun hS' => ?_)
        clear hS hK
        have hS := hS'; clear hS'
        try simp only [Act.put, List.setIfInBounds_toArray, List.set_cons_zero, List.set_cons_succ]
        refine wpAnyH_ready (rs := [9]) (by kernel_rfl) (by simp) ?_
        refine AllReadyH.cons (o := ⟨_, _, _, _, _, _⟩) rfl (fun K hK => ?_) AllReadyH.nil
        rw [if_pos (by rfl)]
        go_simp
        refine hK.out _ _ ((((Below.refl _ W).alloc (Nat.le_refl _) _).alloc (by simp) _).drew) (fun hS' => ?_)
        clear hS hK
        have hS := hS'; clear hS'
        try simp only [Act.put, List.setIfInBounds_toArray, List.set_cons_zero, List.set_cons_succ]
        refine wpAnyH_done (by kernel_rfl) ?_ _
        go_wp2
        go_ret
        subst hgw
        have ha : ∀ x y z : Value, ((W.alloc (.cells #[x] 52)).alloc (.cells #[y] 52)).drew.cell? ⟨W.heap.size, 0, none⟩ = some x := fun x y z => by simp
        have hc : ∀ x y z : Value, ((W.alloc (.cells #[x] 52)).alloc (.cells #[y] 52)).drew.cell? ⟨W.heap.size + 1, 0, none⟩ = some y := fun x y z => by simp
        first | (refine ⟨_, ?_, HU.out W.heap.size (W.heap.size + 1) _ (Nat.le_refl _) (Nat.le_succ _) hS (ha _ _ undef) (hc _ _ undef)⟩; exact rfl) | (refine ⟨_, ?_, HU.out (W.heap.size + 1) W.heap.size _ (Nat.le_succ _) (Nat.le_refl _) hS (hc _ _ undef) (ha _ _ undef)⟩; exact rfl)
    · rw [if_pos (by rfl)]
      go_simp
      refine hK.out _ _ (hS.alloc hS.size _) (fun hS' => ?_)
      clear hS hK
      have hS := hS'; clear hS'
      try simp only [Act.put, List.setIfInBounds_toArray, List.set_cons_zero, List.set_cons_succ]
      refine wpAnyH_ready (rs := [5, 6]) (by kernel_rfl) (by simp) ?_
      refine AllReadyH.cons (o := ⟨_, _, _, _, _, _⟩) rfl (fun K hK => ?_) (AllReadyH.cons (o := ⟨_, _, _, _, _, _⟩) rfl (fun K hK => ?_) AllReadyH.nil)
      · rw [if_pos (by rfl)]
        go_step
        refine (P1.out _ hS).mono ?_
        rintro e w3 ⟨rfl, rfl⟩
        simp only []
        refine hK.out _ _ hS (fun hS' => ?_)
        clear hS hK
        have hS := hS'; clear hS'
        try simp only [Act.put, List.setIfInBounds_toArray, List.set_cons_zero, List.set_cons_succ]
        refine wpAnyH_ready (rs := [6]) (by kernel_rfl) (by simp) ?_
        refine AllReadyH.cons (o := ⟨_, _, _, _, _, _⟩) rfl (fun K hK => ?_) AllReadyH.nil
        rw [if_pos (by rfl)]
        go_simp
        refine hK.out _ _ (hS.alloc hS.size _) (fun hS' => ?_)
        clear hS hK
        have hS := hS'; clear hS'
        try simp only [Act.put, List.setIfInBounds_toArray, List.set_cons_zero, List.set_cons_succ]
        refine wpAnyH_ready (rs := [8]) (by kernel_rfl) (by simp) ?_
        refine AllReadyH.cons (o := ⟨_, _, _, _, _, _⟩) rfl (fun K hK => ?_) AllReadyH.nil
        rw [if_pos (by rfl)]
        go_simp
        refine hK.out _ _ ((((Below.refl _ W).alloc (Nat.le_refl _) _).alloc (by simp) _).drew) (fun hS' => ?_)
        clear hS hK
        have hS := hS'; clear hS'
        try simp only [Act.put, List.setIfInBounds_toArray, List.set_cons_zero, List.set_cons_succ]
        refine wpAnyH_ready (rs := [9]) (by kernel_rfl) (by simp) ?_
        refine AllReadyH.cons (o := ⟨_, _, _, _, _, _⟩) rfl (fun K hK => ?_) AllReadyH.nil
        rw [if_pos (by rfl)]
        go_simp
        refine hK.out _ _ ((((Below.refl _ W).alloc (Nat.le_refl _) _).alloc (by simp) _).drew) (fun hS' => ?_)
        clear hS hK
        have hS := hS'; clear hS'
        try simp only [Act.put, List.setIfInBounds_toArray, List.set_cons_zero, List.set_cons_succ]
        refine wpAnyH_done (by kernel_rfl) ?_ _
        go_wp2
        go_ret
        subst hgw
        have ha : ∀ x y z : Value, ((W.alloc (.cells #[x] 52)).alloc (.cells #[y] 52)).drew.cell? ⟨W.heap.size, 0, none⟩ = some x := fun x y z => by simp
        have hc : ∀ x y z : Value, ((W.alloc (.cells #[x] 52)).alloc (.cells #[y] 52)).drew.cell? ⟨W.heap.size + 1, 0, none⟩ = some y := fun x y z => by simp
        first | (refine ⟨_, ?_, HU.out W.heap.size (W.heap.size + 1) _ (Nat.le_refl _) (Nat.le_succ _) hS (ha _ _ undef) (hc _ _ undef)⟩; exact rfl) | (refine ⟨_, ?_, HU.out (W.heap.size + 1) W.heap.size _ (Nat.le_succ _) (Nat.le_refl _) hS (hc _ _ undef) (ha _ _ undef)⟩; exact rfl)
      · rw [if_pos (by rfl)]
        go_simp
        refine hK.out _ _ (hS.alloc hS.size _) (fun hS' => ?_)
        clear hS hK
        have hS := hS'; clear hS'
        try simp only [Act.put, List.setIfInBounds_toArray, List.set_cons_zero, List.set_cons_succ]
        refine wpAnyH_ready (rs := [5]) (by kernel_rfl) (by simp) ?_
        refine AllReadyH.cons (o := ⟨_, _, _, _, _, _⟩) rfl (fun K hK => ?_) AllReadyH.nil
        rw [if_pos (by rfl)]
        go_step
        refine (P1.out _ hS).mono ?_
        rintro e w4 ⟨rfl, rfl⟩
        simp only []
        refine hK.out _ _ hS (fun hS' => ?_)
        clear hS hK
        have hS := hS'; clear hS'
        try simp only [Act.put, List.setIfInBounds_toArray, List.set_cons_zero, List.set_cons_succ]
        refine wpAnyH_ready (rs := [8]) (by kernel_rfl) (by simp) ?_
        refine AllReadyH.cons (o := ⟨_, _, _, _, _, _⟩) rfl (fun K hK => ?_) AllReadyH.nil
        rw [if_pos (by rfl)]
        go_simp
        refine hK.out _ _ ((((Below.refl _ W).alloc (Nat.le_refl _) _).alloc (by simp) _).drew) (fun hS' => ?_)
        clear hS hK
        have hS := hS'; clear hS'
        try simp only [Act.put, List.setIfInBounds_toArray, List.set_cons_zero, List.set_cons_succ]
        refine wpAnyH_ready (rs := [9]) (by kernel_rfl) (by simp) ?_
        refine AllReadyH.cons (o := ⟨_, _, _, _, _, _⟩) rfl (fun K hK => ?_) AllReadyH.nil
        rw [if_pos (by rfl)]
        go_simp
        refine hK.out _ _ ((((Below.refl _ W).alloc (Nat.le_refl _) _).alloc (by simp) _).drew) (fun hS' => ?_)
        clear hS hK
        have hS := hS'; clear hS'
        try simp only [Act.put, List.setIfInBounds_toArray, List.set_cons_zero, List.set_cons_succ]
        refine wpAnyH_done (by kernel_rfl) ?_ _
        go_wp2
        go_ret
        subst hgw
        have ha : ∀ x y z : Value, ((W.alloc (.cells #[x] 52)).alloc (.cells #[y] 52)).drew.cell? ⟨W.heap.size, 0, none⟩ = some x := fun x y z => by simp
        have hc : ∀ x y z : Value, ((W.alloc (.cells #[x] 52)).alloc (.cells #[y] 52)).drew.cell? ⟨W.heap.size + 1, 0, none⟩ = some y := fun x y z => by simp
        first | (refine ⟨_, ?_, HU.out W.heap.size (W.heap.size + 1) _ (Nat.le_refl _) (Nat.le_succ _) hS (ha _ _ undef) (hc _ _ undef)⟩; exact rfl) | (refine ⟨_, ?_, HU.out (W.heap.size + 1) W.heap.size _ (Nat.le_succ _) (Nat.le_refl _) hS (hc _ _ undef) (ha _ _ undef)⟩; exact rfl)
  · rw [if_pos (by rfl)]
    go_simp
    refine hK.out _ _ (hS.alloc hS.size _) (fun hS' => ?_)
    clear hS hK
    have hS := hS'; clear hS'
    try simp only [Act.put, List.setIfInBounds_toArray, List.set_cons_zero, List.set_cons_succ]
    refine wpAnyH_ready (rs := [2, 7]) (by kernel_rfl) (by simp) ?_
    refine AllReadyH.cons (o := ⟨_, _, _, _, _, _⟩) rfl (fun K hK => ?_) (AllReadyH.cons (o := ⟨_, _, _, _, _, _⟩) rfl (fun K hK => ?_) AllReadyH.nil)
    · rw [if_pos (by rfl)]
      go_step
      refine (P0.out _ hS).mono ?_
      rintro e w2 ⟨rfl, rfl⟩
      simp only []
      refine hK.out _ _ hS (fun hS' => ?_)
      clear hS hK
      have hS := hS'; clear hS'
      try simp only [Act.put, List.setIfInBounds_toArray, List.set_cons_zero, List.set_cons_succ]
      refine wpAnyH_ready (rs := [5, 7]) (by kernel_rfl) (by simp) ?_
      refine AllReadyH.cons (o := ⟨_, _, _, _, _, _⟩) rfl (fun K hK => ?_) (AllReadyH.cons (o := ⟨_, _, _, _, _, _⟩) rfl (fun K hK => ?_) AllReadyH.nil)
      · rw [if_pos (by rfl)]
        go_step
        refine (P1.out _ hS).mono ?_
        rintro e w3 ⟨rfl, rfl⟩
        simp only []
        refine hK.out _ _ hS (fun hS' => ?_)
        clear hS hK
        have hS := hS'; clear hS'
        try simp only [Act.put, List.setIfInBounds_toArray, List.set_cons_zero, List.set_cons_succ]
        refine wpAnyH_ready (rs := [7]) (by kernel_rfl) (by simp) ?_
        refine AllReadyH.cons (o := ⟨_, _, _, _, _, _⟩) rfl (fun K hK => ?_) AllReadyH.nil
        rw [if_pos (by rfl)]
        go_simp
        refine hK.out _ _ (hS.alloc hS.size _) (fun hS' => ?_)
        clear hS hK
        have hS := hS'; clear hS'
        try simp only [Act.put, List.setIfInBounds_toArray, List.set_cons_zero, List.set_cons_succ]
        refine wpAnyH_ready (rs := [8]) (by kernel_rfl) (by simp) ?_
        refine AllReadyH.cons (o := ⟨_, _, _, _, _, _⟩) rfl (fun K hK => ?_) AllReadyH.nil
        rw [if_pos (by rfl)]
        go_simp
        refine hK.out _ _ ((((Below.refl _ W).alloc (Nat.le_refl _) _).alloc (by simp) _).drew) (fun hS' => ?_)
        clear hS hK
        have hS := hS'; clear hS'
        try simp only [Act.put, List.setIfInBounds_toArray, List.set_cons_zero, List.set_cons_succ]
        refine wpAnyH_ready (rs := [9]) (by kernel_rfl) (by simp) ?_
        refine AllReadyH.cons (o := ⟨_, _, _, _, _, _⟩) rfl (fun K hK => ?_) AllReadyH.nil
        rw [if_pos (by rfl)]
        go_simp
        refine hK.out _ _ ((((Below.refl _ W).alloc (Nat.le_refl _) _).alloc (by simp) _).drew) (fun hS' => ?_)
        clear hS hK
        have hS := hS'; clear hS'
        try simp only [Act.put, List.setIfInBounds_toArray, List.set_cons_zero, List.set_cons_succ]
        refine wpAnyH_done (by kernel_rfl) ?_ _
        go_wp2
        go_ret
        subst hgw
        have ha : ∀ x y z : Value, ((W.alloc (.cells #[x] 52)).alloc (.cells #[y] 52)).drew.cell? ⟨W.heap.size, 0, none⟩ = some x := fun x y z => by simp
        have hc : ∀ x y z : Value, ((W.alloc (.cells #[x] 52)).alloc (.cells #[y] 52)).drew.cell? ⟨W.heap.size + 1, 0, none⟩ = some y := fun x y z => by simp
        first | (refine ⟨_, ?_, HU.out W.heap.size (W.heap.size + 1) _ (Nat.le_refl _) (Nat.le_succ _) hS (ha _ _ undef) (hc _ _ undef)⟩; exact rfl) | (refine ⟨_, ?_, HU.out (W.heap.size + 1) W.heap.size _ (Nat.le_succ _) (Nat.le_refl _) hS (hc _ _ undef) (ha _ _ undef)⟩; exact rfl)
      · rw [if_pos (by rfl)]
        go_simp
        refine hK.out _ _ (hS.alloc hS.size _) (fun hS' => ?_)
        clear hS hK
        have hS := hS'; clear hS'
        try simp only [Act.put, List.setIfInBounds_toArray, List.set_cons_zero, List.set_cons_succ]
        refine wpAnyH_ready (rs := [5]) (by kernel_rfl) (by simp) ?_
        refine AllReadyH.cons (o := ⟨_, _, _, _, _, _⟩) rfl (fun K hK => ?_) AllReadyH.nil
        rw [if_pos (by rfl)]
        go_step
        refine (P1.out _ hS).mono ?_
        rintro e w4 ⟨rfl, rfl⟩
        simp only []
        refine hK.out _ _ hS (fun hS' => ?_)
        clear hS hK
        have hS := hS'; clear hS'
        try simp only [Act.put, List.setIfInBounds_toArray, List.set_cons_zero, List.set_cons_succ]
        refine wpAnyH_ready (rs := [8]) (by kernel_rfl) (by simp) ?_
        refine AllReadyH.cons (o := ⟨_, _, _, _, _, _⟩) rfl (fun K hK => ?_) AllReadyH.nil
        rw [if_pos (by rfl)]
        go_simp
        refine hK.out _ _ ((((Below.refl _ W).alloc (Nat.le_refl _) _).alloc (by simp) _).drew) (fun hS' => ?_)
        clear hS hK
        have hS := hS'; clear hS'
        try simp only [Act.put, List.setIfInBounds_toArray, List.set_cons_zero, List.set_cons_succ]
        refine wpAnyH_ready (rs := [9]) (by kernel_rfl) (by simp) ?_
        refine AllReadyH.cons (o := ⟨_, _, _, _, _, _⟩) rfl (fun K hK => ?_) AllReadyH.nil
        rw [if_pos (by rfl)]
        go_simp
        refine hK.out _ _ ((((Below.refl _ W).alloc (Nat.le_refl _) _).alloc (by simp) _).drew) (fun hS' => ?_)
        clear hS hK
        have hS := hS'; clear hS'
        try simp only [Act.put, List.setIfInBounds_toArray, List.set_cons_zero, List.set_cons_succ]
        refine wpAnyH_done (by kernel_rfl) ?_ _
        go_wp2
        go_ret
        subst hgw
        have ha : ∀ x y z : Value, ((W.alloc (.cells #[x] 52)).alloc (.cells #[y] 52)).drew.cell? ⟨W.heap.size, 0, none⟩ = some x := fun x y z => by simp
        have hc : ∀ x y z : Value, ((W.alloc (.cells #[x] 52)).alloc (.cells #[y] 52)).drew.cell? ⟨W.heap.size + 1, 0, none⟩ = some y := fun x y z => by simp
        first | (refine ⟨_, ?_, HU.out W.heap.size (W.heap.size + 1) _ (Nat.le_refl _) (Nat.le_succ _) hS (ha _ _ undef) (hc _ _ undef)⟩; exact rfl) | (refine ⟨_, ?_, HU.out (W.heap.size + 1) W.heap.size _ (Nat.le_succ _) (Nat.le_refl _) hS (hc _ _ undef) (ha _ _ undef)⟩; exact rfl)
    · rw [if_pos (by rfl)]
      go_simp
      refine hK.out _ _ (hS.alloc hS.size _) (fun hS' => ?_)
      clear hS hK
      have hS := hS'; clear hS'
      try simp only [Act.put, List.setIfInBounds_toArray, List.set_cons_zero, List.set_cons_succ]
      refine wpAnyH_ready (rs := [2]) (by kernel_rfl) (by simp) ?_
      refine AllReadyH.cons (o := ⟨_, _, _, _, _, _⟩) rfl (fun K hK => ?_) AllReadyH.nil
      rw [if_pos (by rfl)]
      go_step
      refine (P0.out _ hS).mono ?_
      rintro e w3 ⟨rfl, rfl⟩
      simp only []
      refine hK.out _ _ hS (fun hS' => ?_)
      clear hS hK
      have hS := hS'; clear hS'
      try simp only [Act.put, List.setIfInBounds_toArray, List.set_cons_zero, List.set_cons_succ]
      refine wpAnyH_ready (rs := [5]) (by kernel_rfl) (by simp) ?_
      refine AllReadyH.cons (o := ⟨_, _, _, _, _, _⟩) rfl (fun K hK => ?_) AllReadyH.nil
      rw [if_pos (by rfl)]
      go_step
      refine (P1.out _ hS).mono ?_
      rintro e w4 ⟨rfl, rfl⟩
      simp only []
      refine hK.out _ _ hS (fun hS' => ?_)
      clear hS hK
      have hS := hS'; clear hS'
      try simp only [Act.put, List.setIfInBounds_toArray, List.set_cons_zero, List.set_cons_succ]
      refine wpAnyH_ready (rs := [8]) (by kernel_rfl) (by simp) ?_
      refine AllReadyH.cons (o := ⟨_, _, _, _, _, _⟩) rfl (fun K hK => ?_) AllReadyH.nil
      rw [if_pos (by rfl)]
      go_simp
      refine hK.out _ _ ((((Below.refl _ W).alloc (Nat.le_refl _) _).alloc (by simp) _).drew) (fun hS' => ?_)
      clear hS hK
      have hS := hS'; clear hS'
      try simp only [Act.put, List.setIfInBounds_toArray, List.set_cons_zero, List.set_cons_succ]
      refine wpAnyH_ready (rs := [9]) (by kernel_rfl) (by simp) ?_
      refine AllReadyH.cons (o := ⟨_, _, _, _, _, _⟩) rfl (fun K hK => ?_) AllReadyH.nil
      rw [if_pos (by rfl)]
      go_simp
      refine hK.out _ _ ((((Below.refl _ W).alloc (Nat.le_refl _) _).alloc (by simp) _).drew) (fun hS' => ?_)
      clear hS hK
      have hS := hS'; clear hS'
      try simp only [Act.put, List.setIfInBounds_toArray, List.set_cons_zero, List.set_cons_succ]
      refine wpAnyH_done (by kernel_rfl) ?_ _
      go_wp2
      go_ret
      subst hgw
      have ha : ∀ x y z : Value, ((W.alloc (.cells #[x] 52)).alloc (.cells #[y] 52)).drew.cell? ⟨W.heap.size, 0, none⟩ = some x := fun x y z => by simp
      have hc : ∀ x y z : Value, ((W.alloc (.cells #[x] 52)).alloc (.cells #[y] 52)).drew.cell? ⟨W.heap.size + 1, 0, none⟩ = some y := fun x y z => by simp
      first | (refine ⟨_, ?_, HU.out W.heap.size (W.heap.size + 1) _ (Nat.le_refl _) (Nat.le_succ _) hS (ha _ _ undef) (hc _ _ undef)⟩; exact rfl) | (refine ⟨_, ?_, HU.out (W.heap.size + 1) W.heap.size _ (Nat.le_succ _) (Nat.le_refl _) hS (hc _ _ undef) (ha _ _ undef)⟩; exact rfl)
  · rw [if_pos (by rfl)]
    go_simp
    refine hK.out _ _ (hS.alloc hS.size _) (fun hS' => ?_)
    clear hS hK
    have hS := hS'; clear hS'
    try simp only [Act.put, List.setIfInBounds_toArray, List.set_cons_zero, List.set_cons_succ]
    refine wpAnyH_ready (rs := [2, 6]) (by kernel_rfl) (by simp) ?_
    refine AllReadyH.cons (o := ⟨_, _, _, _, _, _⟩) rfl (fun K hK => ?_) (AllReadyH.cons (o := ⟨_, _, _, _, _, _⟩) rfl (fun K hK => ?_) AllReadyH.nil)
    · rw [if_pos (by rfl)]
      go_step
      refine (P0.out _ hS).mono ?_
      rintro e w2 ⟨rfl, rfl⟩
      simp only []
      refine hK.out _ _ hS (fun hS' => ?_)
      clear hS hK
      have hS := hS'; clear hS'
      try simp only [Act.put, List.setIfInBounds_toArray, List.set_cons_zero, List.set_cons_succ]
      refine wpAnyH_ready (rs := [5, 6]) (by kernel_rfl) (by simp) ?_
      refine AllReadyH.cons (o := ⟨_, _, _, _, _, _⟩) rfl (fun K hK => ?_) (AllReadyH.cons (o := ⟨_, _, _, _, _, _⟩) rfl (fun K hK => ?_) AllReadyH.nil)
      · rw [if_pos (by rfl)]
        go_step
        refine (P1.out _ hS).mono ?_
        rintro e w3 ⟨rfl, rfl⟩
        simp only []
        refine hK.out _ _ hS (fun hS' => ?_)
        clear hS hK
        have hS := hS'; clear hS'
        try simp only [Act.put, List.setIfInBounds_toArray, List.set_cons_zero, List.set_cons_succ]
        refine wpAnyH_ready (rs := [6]) (by kernel_rfl) (by simp) ?_
        refine AllReadyH.cons (o := ⟨_, _, _, _, _, _⟩) rfl (fun K hK => ?_) AllReadyH.nil
        rw [if_pos (by rfl)]
        go_simp
        refine hK.out _ _ (hS.alloc hS.size _) (fun hS' => ?_)
        clear hS hK
        have hS := hS'; clear hS'
        try simp only [Act.put, List.setIfInBounds_toArray, List.set_cons_zero, List.set_cons_succ]
        refine wpAnyH_ready (rs := [8]) (by kernel_rfl) (by simp) ?_
        refine AllReadyH.cons (o := ⟨_, _, _, _, _, _⟩) rfl (fun K hK => ?_) AllReadyH.nil
        rw [if_pos (by rfl)]
        go_simp
        refine hK.out _ _ ((((Below.refl _ W).alloc (Nat.le_refl _) _).alloc (by simp) _).drew) (fun hS' => ?_)
        clear hS hK
        have hS := hS'; clear hS'
        try simp only [Act.put, List.setIfInBounds_toArray, List.set_cons_zero, List.set_cons_succ]
        refine wpAnyH_ready (rs := [9]) (by kernel_rfl) (by simp) ?_
        refine AllReadyH.cons (o := ⟨_, _, _, _, _, _⟩) rfl (fun K hK => ?_) AllReadyH.nil
        rw [if_pos (by rfl)]
        go_simp
        refine hK.out _ _ ((((Below.refl _ W).alloc (Nat.le_refl _) _).alloc (by simp) _).drew) (fun hS' => ?_)
        clear hS hK
        have hS := hS'; clear hS'
        try simp only [Act.put, List.setIfInBounds_toArray, List.set_cons_zero, List.set_cons_succ]
        refine wpAnyH_done (by kernel_rfl) ?_ _
        go_wp2
        go_ret
        subst hgw
        have ha : ∀ x y z : Value, ((W.alloc (.cells #[x] 52)).alloc (.cells #[y] 52)).drew.cell? ⟨W.heap.size, 0, none⟩ = some x := fun x y z => by simp
        have hc : ∀ x y z : Value, ((W.alloc (.cells #[x] 52)).alloc (.cells #[y] 52)).drew.cell? ⟨W.heap.size + 1, 0, none⟩ = some y := fun x y z => by simp
        first | (refine ⟨_, ?_, HU.out W.heap.size (W.heap.size + 1) _ (Nat.le_refl _) (Nat.le_succ _) hS (ha _ _ undef) (hc _ _ undef)⟩; exact rfl) | (refine ⟨_, ?_, HU.out (W.heap.size + 1) W.heap.size _ (Nat.le_succ _) (Nat.le_refl _) hS (hc _ _ undef) (ha _ _ undef)⟩; exact rfl)
      · rw [if_pos (by rfl)]
        go_simp
        refine hK.out _ _ (hS.alloc hS.size _) (fun hS' => ?_)
        clear hS hK
        have hS := hS'; clear hS'
        try simp only [Act.put, List.setIfInBounds_toArray, List.set_cons_zero, List.set_cons_succ]
        refine wpAnyH_ready (rs := [5]) (by kernel_rfl) (by simp) ?_
        refine AllReadyH.cons (o := ⟨_, _, _, _, _, _⟩) rfl (fun K hK => ?_) AllReadyH.nil
        rw [if_pos (by rfl)]
        go_step
        refine (P1.out _ hS).mono ?_
        rintro e w4 ⟨rfl, rfl⟩
        simp only []
        refine hK.out _ _ hS (fun hS' => ?_)
        clear hS hK
        have hS := hS'; clear hS'
        try simp only [Act.put, List.setIfInBounds_toArray, List.set_cons_zero, List.set_cons_succ]
        refine wpAnyH_ready (rs := [8]) (by kernel_rfl) (by simp) ?_
        refine AllReadyH.cons (o := ⟨_, _, _, _, _, _⟩) rfl (fun K hK => ?_) AllReadyH.nil
        rw [if_pos (by rfl)]
        go_simp
        refine hK.out _ _ ((((Below.refl _ W).alloc (Nat.le_refl _) _).alloc (by simp) _).drew) (fun hS' => ?_)
        clear hS hK
        have hS := hS'; clear hS'
        try simp only [Act.put, List.setIfInBounds_toArray, List.set_cons_zero, List.set_cons_succ]
        refine wpAnyH_ready (rs := [9]) (by kernel_rfl) (by simp) ?_
        refine AllReadyH.cons (o := ⟨_, _, _, _, _, _⟩) rfl (fun K hK => ?_) AllReadyH.nil
        rw [if_pos (by rfl)]
        go_simp
        refine hK.out _ _ ((((Below.refl _ W).alloc (Nat.le_refl _) _).alloc (by simp) _).drew) (fun hS' => ?_)
        clear hS hK
        have hS := hS'; clear hS'
        try simp only [Act.put, List.setIfInBounds_toArray, List.set_cons_zero, List.set_cons_succ]
        refine wpAnyH_done (by kernel_rfl) ?_ _
        go_wp2
        go_ret
        subst hgw
        have ha : ∀ x y z : Value, ((W.alloc (.cells #[x] 52)).alloc (.cells #[y] 52)).drew.cell? ⟨W.heap.size, 0, none⟩ = some x := fun x y z => by simp
        have hc : ∀ x y z : Value, ((W.alloc (.cells #[x] 52)).alloc (.cells #[y] 52)).drew.cell? ⟨W.heap.size + 1, 0, none⟩ = some y := fun x y z => by simp
        first | (refine ⟨_, ?_, HU.out W.heap.size (W.heap.size + 1) _ (Nat.le_refl _) (Nat.le_succ _) hS (ha _ _ undef) (hc _ _ undef)⟩; exact rfl) | (refine ⟨_, ?_, HU.out (W.heap.size + 1) W.heap.size _ (Nat.le_succ _) (Nat.le_refl _) hS (hc _ _ undef) (ha _ _ undef)⟩; exact rfl)
    · rw [if_pos (by rfl)]
      go_simp
      refine hK.out _ _ (hS.alloc hS.size _) (fun hS' => ?_)
      clear hS hK
      have hS := hS'; clear hS'
      try simp only [Act.put, List.setIfInBounds_toArray, List.set_cons_zero, List.set_cons_succ]
      refine wpAnyH_ready (rs := [2]) (by kernel_rfl) (by simp) ?_
      refine AllReadyH.cons (o := ⟨_, _, _, _, _, _⟩) rfl (fun K hK => ?_) AllReadyH.nil
      rw [if_pos (by rfl)]
      go_step
      refine (P0.out _ hS).mono ?_
      rintro e w3 ⟨rfl, rfl⟩
      simp only []
      refine hK.out _ _ hS (fun hS' => ?_)
      clear hS hK
      have hS := hS'; clear hS'
      try simp only [Act.put, List.setIfInBounds_toArray, List.set_cons_zero, List.set_cons_succ]
      refine wpAnyH_ready (rs := [5]) (by kernel_rfl) (by simp) ?_
      refine AllReadyH.cons (o := ⟨_, _, _, _, _, _⟩) rfl (fun K hK => ?_) AllReadyH.nil
      rw [if_pos (by rfl)]
      go_step
      refine (P1.out _ hS).mono ?_
      rintro e w4 ⟨rfl, rfl⟩
      simp only []
      refine hK.out _ _ hS (fun hS' => ?_)
      clear hS hK
      have hS := hS'; clear hS'
      try simp only [Act.put, List.setIfInBounds_toArray, List.set_cons_zero, List.set_cons_succ]
      refine wpAnyH_ready (rs := [8]) (by kernel_rfl) (by simp) ?_
      refine AllReadyH.cons (o := ⟨_, _, _, _, _, _⟩) rfl (fun K hK => ?_) AllReadyH.nil
      rw [if_pos (by rfl)]
      go_simp
      refine hK.out _ _ ((((Below.refl _ W).alloc (Nat.le_refl _) _).alloc (by simp) _).drew) (fun hS' => ?_)
      clear hS hK
      have hS := hS'; clear hS'
      try simp only [Act.put, List.setIfInBounds_toArray, List.set_cons_zero, List.set_cons_succ]
      refine wpAnyH_ready (rs := [9]) (by kernel_rfl) (by simp) ?_
      refine AllReadyH.cons (o := ⟨_, _, _, _, _, _⟩) rfl (fun K hK => ?_) AllReadyH.nil
      rw [if_pos (by rfl)]
      go_simp
      refine hK.out _ _ ((((Below.refl _ W).alloc (Nat.le_refl _) _).alloc (by simp) _).drew) (fun hS' => ?_)
      clear hS hK
      have hS := hS'; clear hS'
      try simp only [Act.put, List.setIfInBounds_toArray, List.set_cons_zero, List.set_cons_succ]
      refine wpAnyH_done (by kernel_rfl) ?_ _
      go_wp2
      go_ret
      subst hgw
      have ha : ∀ x y z : Value, ((W.alloc (.cells #[x] 52)).alloc (.cells #[y] 52)).drew.cell? ⟨W.heap.size, 0, none⟩ = some x := fun x y z => by simp
      have hc : ∀ x y z : Value, ((W.alloc (.cells #[x] 52)).alloc (.cells #[y] 52)).drew.cell? ⟨W.heap.size + 1, 0, none⟩ = some y := fun x y z => by simp
      first | (refine ⟨_, ?_, HU.out W.heap.size (W.heap.size + 1) _ (Nat.le_refl _) (Nat.le_succ _) hS (ha _ _ undef) (hc _ _ undef)⟩; exact rfl) | (refine ⟨_, ?_, HU.out (W.heap.size + 1) W.heap.size _ (Nat.le_succ _) (Nat.le_refl _) hS (hc _ _ undef) (ha _ _ undef)⟩; exact rfl)
end Go.Proofs.Ytppcccocnmhbgaa
