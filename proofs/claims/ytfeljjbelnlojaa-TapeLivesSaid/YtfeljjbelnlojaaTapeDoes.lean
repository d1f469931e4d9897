/- The law TapeLives: does. -/
import Derived.Test.YtfeljjbelnlojaaTapeSame
import Derived.Deep.LoopGhost
namespace Go.Proofs.Ytfeljjbelnlojaa
open Go Go.RowKit
set_option linter.unusedSimpArgs false
set_option linter.unusedVariables false

set_option maxHeartbeats 1600000 in
theorem does_sync {F : Nat → Prop} {p r : Nat} {a : TS} (op n : Int) (q : Option Addr) (c : Nat) (ys : List Int) (w : World) (e1 : wrap64 ((IntKind.u64.wrap op).tmod 9) = 4) (hn : n ≤ 9223372036854775807) (h : Two F w p r a a) (ha : a.ok)
    (hy : Lib.BytesIn w q ys.length ys) (hyl : ys.length ≤ 140737488355328) (hq : 0 < ys.length → ∀ d, q = some d → ¬ F d.block) :
    Calls Try.prog 23 #[.pointer (some ⟨p, 0, none⟩), .pointer (some ⟨r, 0, none⟩), .agg #[.int .i64 op, .int .i64 n, .slice q ys.length c]] w fun e w' => e = .returned (.bool true) ∧ ∃ a', TS.ok a' ∧ Left F w w' p r a' a' := by
  have H0 := Lib.hid (h.keep (X := fun _ => False) ((Keep.refl _ w).alloc (.cells #[.int .i64 op, .int .i64 n, .slice q ys.length c] 40)) (fun _ _ h => h))
  have B0 := Lib.hid (Blk.new w #[.int .i64 op, .int .i64 n, .slice q ys.length c] 40)
  have K0 := Lib.hid ((Keep.refl F w).alloc (.cells #[.int .i64 op, .int .i64 n, .slice q ys.length c] 40))
  have gF : ¬ F w.heap.size := fun h' => Nat.lt_irrefl _ (h.lt _ h')
  have HY := Lib.hid (bytes_keep (X := fun _ => False) hy ((Keep.refl _ w).alloc (.cells #[.int .i64 op, .int .i64 n, .slice q ys.length c] 40)) (fun _ _ _ h => h))
  have HQ := Lib.hid hq
  have HA := Lib.hid ha
  have hsub : ∀ k, F k → F k ∨ w.heap.size ≤ k := fun k h => .inl h
  go_enter Try.func23, Try.ntmps23
  go_upto_region 1 with fail
  generalize w.alloc (.cells #[.int .i64 op, .int .i64 n, .slice q ys.length c] 40) = w0 at *
  generalize hg : w.heap.size = g at *
  have lg := B0.out.lt
  have cb := B0.out.cell
  clear h ha hy hq
  go_upto_region 4 with fail
  rw [e1]
  clear e1
  have P1 := Lib.hid (p_sync H0.out HA.out)
  go_wp2_with fail
  refine P1.out.mono ?_
  rintro e w1 ⟨rfl, F1, t1, k1, s1⟩
  have P2 := Lib.hid (q_sync t1 HA.out)
  have K1 := Lib.hid k1
  have S1 := Lib.hid s1
  clear t1 k1 s1
  go_wp2_with fail
  refine P2.out.mono ?_
  rintro e w2 ⟨rfl, hl2⟩
  have HL := Lib.hid hl2
  clear hl2
  go_wp2
  go_ret
  exact ⟨by simp, _, ok_sync HA.out, Left.trans K0.out (fun k e => .inl e) (Left.trans K1.out S1.out HL.out)⟩
set_option maxHeartbeats 1600000 in
theorem does_cut {F : Nat → Prop} {p r : Nat} {a : TS} (op n : Int) (q : Option Addr) (c : Nat) (ys : List Int) (w : World) (e1 : wrap64 ((IntKind.u64.wrap op).tmod 9) = 5) (hn : n ≤ 9223372036854775807) (h : Two F w p r a a) (ha : a.ok)
    (hy : Lib.BytesIn w q ys.length ys) (hyl : ys.length ≤ 140737488355328) (hq : 0 < ys.length → ∀ d, q = some d → ¬ F d.block) :
    Calls Try.prog 23 #[.pointer (some ⟨p, 0, none⟩), .pointer (some ⟨r, 0, none⟩), .agg #[.int .i64 op, .int .i64 n, .slice q ys.length c]] w fun e w' => e = .returned (.bool true) ∧ ∃ a', TS.ok a' ∧ Left F w w' p r a' a' := by
  have H0 := Lib.hid (h.keep (X := fun _ => False) ((Keep.refl _ w).alloc (.cells #[.int .i64 op, .int .i64 n, .slice q ys.length c] 40)) (fun _ _ h => h))
  have B0 := Lib.hid (Blk.new w #[.int .i64 op, .int .i64 n, .slice q ys.length c] 40)
  have K0 := Lib.hid ((Keep.refl F w).alloc (.cells #[.int .i64 op, .int .i64 n, .slice q ys.length c] 40))
  have gF : ¬ F w.heap.size := fun h' => Nat.lt_irrefl _ (h.lt _ h')
  have HY := Lib.hid (bytes_keep (X := fun _ => False) hy ((Keep.refl _ w).alloc (.cells #[.int .i64 op, .int .i64 n, .slice q ys.length c] 40)) (fun _ _ _ h => h))
  have HQ := Lib.hid hq
  have HA := Lib.hid ha
  have hsub : ∀ k, F k → F k ∨ w.heap.size ≤ k := fun k h => .inl h
  go_enter Try.func23, Try.ntmps23
  go_upto_region 1 with fail
  generalize w.alloc (.cells #[.int .i64 op, .int .i64 n, .slice q ys.length c] 40) = w0 at *
  generalize hg : w.heap.size = g at *
  have lg := B0.out.lt
  have cb := B0.out.cell
  clear h ha hy hq
  go_upto_region 4 with fail
  rw [e1]
  clear e1
  have HTD := Lib.hid (H0.out.keep (X := fun _ => False) (Keep.refl _ w0).drew (fun _ _ h => h))
  have C1 : w0.drew.cell? ⟨g, 1, none⟩ = some (.int .i64 n) := B0.out.drew.cell 1
  have lgd : g < w0.drew.heap.size := lg
  go_upto_region 19 with fail
  refine wp_region_held_drew (S := fun w' => w'.cell? ⟨g, 1, none⟩ = some (.int .i64 n)) (by kernel_rfl) C1 (fun hS => ?_)
  refine wpAnyH_take (i := 0) (oi := ⟨_, _, _, _, _, _⟩) (v := ?_) rfl (by kernel_rfl) (by kernel_rfl) (by kernel_rfl) (fun _ _ _ h => h) (Or.inl ⟨by rfl, ?_⟩) hS ?_
  rotate_left
  · intro w0 hs; have s1 := hs; go_simp; try (with_reducible rfl)
  try simp only [Act.put, List.setIfInBounds_toArray, List.set_cons_zero, List.set_cons_succ]
  refine wpAnyH_take (i := 1) (oi := ⟨_, _, _, _, _, _⟩) (v := ?_) rfl (by kernel_rfl) (by kernel_rfl) (by kernel_rfl) (fun _ _ _ h => h) (Or.inl ⟨by rfl, ?_⟩) hS ?_
  rotate_left
  · intro w0 hs; have s1 := hs; go_simp; try (with_reducible rfl)
  try simp only [Act.put, List.setIfInBounds_toArray, List.set_cons_zero, List.set_cons_succ]
  refine wpAnyH_take (i := 2) (oi := ⟨_, _, _, _, _, _⟩) (v := ?_) rfl (by kernel_rfl) (by kernel_rfl) (by kernel_rfl) (fun _ _ _ h => h) (Or.inl ⟨by rfl, ?_⟩) hS ?_
  rotate_left
  · intro w0 hs; have s1 := hs; go_simp; try (with_reducible rfl)
  try simp only [Act.put, List.setIfInBounds_toArray, List.set_cons_zero, List.set_cons_succ]
  refine wpAnyH_take (i := 4) (oi := ⟨_, _, _, _, _, _⟩) (v := ?_) rfl (by kernel_rfl) (by kernel_rfl) (by kernel_rfl) (fun _ _ _ h => h) (Or.inl ⟨by rfl, ?_⟩) hS ?_
  rotate_left
  · intro w0 hs; have s1 := hs; go_simp; try (with_reducible rfl)
  try simp only [Act.put, List.setIfInBounds_toArray, List.set_cons_zero, List.set_cons_succ]
  refine wpAnyH_take (i := 5) (oi := ⟨_, _, _, _, _, _⟩) (v := ?_) rfl (by kernel_rfl) (by kernel_rfl) (by kernel_rfl) (fun _ _ _ h => h) (Or.inl ⟨by rfl, ?_⟩) hS ?_
  rotate_left
  · intro w0 hs; have s1 := hs; go_simp; try (with_reducible rfl)
  try simp only [Act.put, List.setIfInBounds_toArray, List.set_cons_zero, List.set_cons_succ]
  refine wpAnyH_take (i := 6) (oi := ⟨_, _, _, _, _, _⟩) (v := ?_) rfl (by kernel_rfl) (by kernel_rfl) (by kernel_rfl) (fun _ _ _ h => h) (Or.inl ⟨by rfl, ?_⟩) hS ?_
  rotate_left
  · intro w0 hs; have s1 := hs; go_simp; try (with_reducible rfl)
  try simp only [Act.put, List.setIfInBounds_toArray, List.set_cons_zero, List.set_cons_succ]
  refine wpAnyH_ready (rs := [3]) (by kernel_rfl) (by simp) ?_
  refine AllReadyH.cons (o := ⟨_, _, _, _, _, _⟩) rfl (fun K hK => ?_) AllReadyH.nil
  rw [if_pos (by rfl)]
  go_step
  refine (p_cut n HTD.out HA.out).mono ?_
  rintro e w1 ⟨rfl, F1, t1, k1, s1⟩
  have SB := Lib.hid ((k1.cell (p := ⟨g, 1, none⟩) lgd gF).trans C1)
  have T1 := Lib.hid t1
  have K1 := Lib.hid k1
  have S1 := Lib.hid s1
  have nF1 : ¬ F1 g := fun h => (s1 g h).elim gF (fun h => by omega)
  have lg1 : g < w1.heap.size := Nat.lt_of_lt_of_le lgd k1.size
  clear t1 k1 s1
  simp only []
  refine hK.out _ _ (by first | exact SB2.out | exact SB.out | exact hS) (fun hS' => ?_)
  clear hS hK
  have hS := hS'; clear hS'
  try simp only [Act.put, List.setIfInBounds_toArray, List.set_cons_zero, List.set_cons_succ]
  refine wpAnyH_ready (rs := [7]) (by kernel_rfl) (by simp) ?_
  refine AllReadyH.cons (o := ⟨_, _, _, _, _, _⟩) rfl (fun K hK => ?_) AllReadyH.nil
  rw [if_pos (by rfl)]
  go_step
  refine (q_cut n T1.out HA.out).mono ?_
  rintro e w2 ⟨rfl, hl2⟩
  have SB2 := Lib.hid (show w2.cell? ⟨g, 1, none⟩ = some (.int .i64 n) from by obtain ⟨F2, t2, k2, s2⟩ := hl2; exact (k2.cell (p := ⟨g, 1, none⟩) lg1 nF1).trans SB.out)
  have HL := Lib.hid hl2
  clear hl2
  simp only []
  refine hK.out _ _ (by first | exact SB2.out | exact SB.out | exact hS) (fun hS' => ?_)
  clear hS hK
  have hS := hS'; clear hS'
  try simp only [Act.put, List.setIfInBounds_toArray, List.set_cons_zero, List.set_cons_succ]
  refine wpAnyH_take (i := 8) (oi := ⟨_, _, _, _, _, _⟩) (v := ?_) rfl (by kernel_rfl) (by kernel_rfl) (by kernel_rfl) (fun _ _ _ h => h) (Or.inl ⟨by rfl, ?_⟩) hS ?_
  rotate_left
  · intro w0 hs; have s1 := hs; go_simp; try (with_reducible rfl)
  try simp only [Act.put, List.setIfInBounds_toArray, List.set_cons_zero, List.set_cons_succ]
  refine wpAnyH_take (i := 9) (oi := ⟨_, _, _, _, _, _⟩) (v := ?_) rfl (by kernel_rfl) (by kernel_rfl) (by kernel_rfl) (fun _ _ _ h => h) (Or.inl ⟨by rfl, ?_⟩) hS ?_
  rotate_left
  · intro w0 hs; have s1 := hs; go_simp; try (with_reducible rfl)
  try simp only [Act.put, List.setIfInBounds_toArray, List.set_cons_zero, List.set_cons_succ]
  refine wpAnyH_done (by kernel_rfl) ?_ _
  go_wp2
  go_ret
  exact ⟨by simp, _, ok_cut HA.out, Left.trans K0.out (fun k e => .inl e) (Left.trans (Keep.refl F w0).drew (fun k e => .inl e) (Left.trans K1.out S1.out HL.out))⟩
set_option maxHeartbeats 1600000 in
theorem does_fuse {F : Nat → Prop} {p r : Nat} {a : TS} (op n : Int) (q : Option Addr) (c : Nat) (ys : List Int) (w : World) (e1 : wrap64 ((IntKind.u64.wrap op).tmod 9) = 6) (hn : n ≤ 9223372036854775807) (h : Two F w p r a a) (ha : a.ok)
    (hy : Lib.BytesIn w q ys.length ys) (hyl : ys.length ≤ 140737488355328) (hq : 0 < ys.length → ∀ d, q = some d → ¬ F d.block) :
    Calls Try.prog 23 #[.pointer (some ⟨p, 0, none⟩), .pointer (some ⟨r, 0, none⟩), .agg #[.int .i64 op, .int .i64 n, .slice q ys.length c]] w fun e w' => e = .returned (.bool true) ∧ ∃ a', TS.ok a' ∧ Left F w w' p r a' a' := by
  have H0 := Lib.hid (h.keep (X := fun _ => False) ((Keep.refl _ w).alloc (.cells #[.int .i64 op, .int .i64 n, .slice q ys.length c] 40)) (fun _ _ h => h))
  have B0 := Lib.hid (Blk.new w #[.int .i64 op, .int .i64 n, .slice q ys.length c] 40)
  have K0 := Lib.hid ((Keep.refl F w).alloc (.cells #[.int .i64 op, .int .i64 n, .slice q ys.length c] 40))
  have gF : ¬ F w.heap.size := fun h' => Nat.lt_irrefl _ (h.lt _ h')
  have HY := Lib.hid (bytes_keep (X := fun _ => False) hy ((Keep.refl _ w).alloc (.cells #[.int .i64 op, .int .i64 n, .slice q ys.length c] 40)) (fun _ _ _ h => h))
  have HQ := Lib.hid hq
  have HA := Lib.hid ha
  have hsub : ∀ k, F k → F k ∨ w.heap.size ≤ k := fun k h => .inl h
  go_enter Try.func23, Try.ntmps23
  go_upto_region 1 with fail
  generalize w.alloc (.cells #[.int .i64 op, .int .i64 n, .slice q ys.length c] 40) = w0 at *
  generalize hg : w.heap.size = g at *
  have lg := B0.out.lt
  have cb := B0.out.cell
  clear h ha hy hq
  go_upto_region 4 with fail
  rw [e1]
  clear e1
  have HTD := Lib.hid (H0.out.keep (X := fun _ => False) (Keep.refl _ w0).drew (fun _ _ h => h))
  have C1 : w0.drew.cell? ⟨g, 1, none⟩ = some (.int .i64 n) := B0.out.drew.cell 1
  have lgd : g < w0.drew.heap.size := lg
  go_upto_region 21 with fail
  refine wp_region_held_drew (S := fun w' => w'.cell? ⟨g, 1, none⟩ = some (.int .i64 n)) (by kernel_rfl) C1 (fun hS => ?_)
  refine wpAnyH_take (i := 0) (oi := ⟨_, _, _, _, _, _⟩) (v := ?_) rfl (by kernel_rfl) (by kernel_rfl) (by kernel_rfl) (fun _ _ _ h => h) (Or.inl ⟨by rfl, ?_⟩) hS ?_
  rotate_left
  · intro w0 hs; have s1 := hs; go_simp; try (with_reducible rfl)
  try simp only [Act.put, List.setIfInBounds_toArray, List.set_cons_zero, List.set_cons_succ]
  refine wpAnyH_take (i := 1) (oi := ⟨_, _, _, _, _, _⟩) (v := ?_) rfl (by kernel_rfl) (by kernel_rfl) (by kernel_rfl) (fun _ _ _ h => h) (Or.inl ⟨by rfl, ?_⟩) hS ?_
  rotate_left
  · intro w0 hs; have s1 := hs; go_simp; try (with_reducible rfl)
  try simp only [Act.put, List.setIfInBounds_toArray, List.set_cons_zero, List.set_cons_succ]
  refine wpAnyH_take (i := 2) (oi := ⟨_, _, _, _, _, _⟩) (v := ?_) rfl (by kernel_rfl) (by kernel_rfl) (by kernel_rfl) (fun _ _ _ h => h) (Or.inl ⟨by rfl, ?_⟩) hS ?_
  rotate_left
  · intro w0 hs; have s1 := hs; go_simp; try (with_reducible rfl)
  try simp only [Act.put, List.setIfInBounds_toArray, List.set_cons_zero, List.set_cons_succ]
  refine wpAnyH_take (i := 4) (oi := ⟨_, _, _, _, _, _⟩) (v := ?_) rfl (by kernel_rfl) (by kernel_rfl) (by kernel_rfl) (fun _ _ _ h => h) (Or.inl ⟨by rfl, ?_⟩) hS ?_
  rotate_left
  · intro w0 hs; have s1 := hs; go_simp; try (with_reducible rfl)
  try simp only [Act.put, List.setIfInBounds_toArray, List.set_cons_zero, List.set_cons_succ]
  refine wpAnyH_take (i := 5) (oi := ⟨_, _, _, _, _, _⟩) (v := ?_) rfl (by kernel_rfl) (by kernel_rfl) (by kernel_rfl) (fun _ _ _ h => h) (Or.inl ⟨by rfl, ?_⟩) hS ?_
  rotate_left
  · intro w0 hs; have s1 := hs; go_simp; try (with_reducible rfl)
  try simp only [Act.put, List.setIfInBounds_toArray, List.set_cons_zero, List.set_cons_succ]
  refine wpAnyH_take (i := 6) (oi := ⟨_, _, _, _, _, _⟩) (v := ?_) rfl (by kernel_rfl) (by kernel_rfl) (by kernel_rfl) (fun _ _ _ h => h) (Or.inl ⟨by rfl, ?_⟩) hS ?_
  rotate_left
  · intro w0 hs; have s1 := hs; go_simp; try (with_reducible rfl)
  try simp only [Act.put, List.setIfInBounds_toArray, List.set_cons_zero, List.set_cons_succ]
  refine wpAnyH_ready (rs := [3]) (by kernel_rfl) (by simp) ?_
  refine AllReadyH.cons (o := ⟨_, _, _, _, _, _⟩) rfl (fun K hK => ?_) AllReadyH.nil
  rw [if_pos (by rfl)]
  go_step
  refine (p_fuse n HTD.out).mono ?_
  rintro e w1 ⟨rfl, F1, t1, k1, s1⟩
  have SB := Lib.hid ((k1.cell (p := ⟨g, 1, none⟩) lgd gF).trans C1)
  have T1 := Lib.hid t1
  have K1 := Lib.hid k1
  have S1 := Lib.hid s1
  have nF1 : ¬ F1 g := fun h => (s1 g h).elim gF (fun h => by omega)
  have lg1 : g < w1.heap.size := Nat.lt_of_lt_of_le lgd k1.size
  clear t1 k1 s1
  simp only []
  refine hK.out _ _ (by first | exact SB2.out | exact SB.out | exact hS) (fun hS' => ?_)
  clear hS hK
  have hS := hS'; clear hS'
  try simp only [Act.put, List.setIfInBounds_toArray, List.set_cons_zero, List.set_cons_succ]
  refine wpAnyH_ready (rs := [7]) (by kernel_rfl) (by simp) ?_
  refine AllReadyH.cons (o := ⟨_, _, _, _, _, _⟩) rfl (fun K hK => ?_) AllReadyH.nil
  rw [if_pos (by rfl)]
  go_step
  refine (q_fuse n T1.out).mono ?_
  rintro e w2 ⟨rfl, hl2⟩
  have SB2 := Lib.hid (show w2.cell? ⟨g, 1, none⟩ = some (.int .i64 n) from by obtain ⟨F2, t2, k2, s2⟩ := hl2; exact (k2.cell (p := ⟨g, 1, none⟩) lg1 nF1).trans SB.out)
  have HL := Lib.hid hl2
  clear hl2
  simp only []
  refine hK.out _ _ (by first | exact SB2.out | exact SB.out | exact hS) (fun hS' => ?_)
  clear hS hK
  have hS := hS'; clear hS'
  try simp only [Act.put, List.setIfInBounds_toArray, List.set_cons_zero, List.set_cons_succ]
  refine wpAnyH_take (i := 8) (oi := ⟨_, _, _, _, _, _⟩) (v := ?_) rfl (by kernel_rfl) (by kernel_rfl) (by kernel_rfl) (fun _ _ _ h => h) (Or.inl ⟨by rfl, ?_⟩) hS ?_
  rotate_left
  · intro w0 hs; have s1 := hs; go_simp; try (with_reducible rfl)
  try simp only [Act.put, List.setIfInBounds_toArray, List.set_cons_zero, List.set_cons_succ]
  refine wpAnyH_take (i := 9) (oi := ⟨_, _, _, _, _, _⟩) (v := ?_) rfl (by kernel_rfl) (by kernel_rfl) (by kernel_rfl) (fun _ _ _ h => h) (Or.inl ⟨by rfl, ?_⟩) hS ?_
  rotate_left
  · intro w0 hs; have s1 := hs; go_simp; try (with_reducible rfl)
  try simp only [Act.put, List.setIfInBounds_toArray, List.set_cons_zero, List.set_cons_succ]
  refine wpAnyH_done (by kernel_rfl) ?_ _
  go_wp2
  go_ret
  exact ⟨by simp, _, ok_fuse HA.out hn, Left.trans K0.out (fun k e => .inl e) (Left.trans (Keep.refl F w0).drew (fun k e => .inl e) (Left.trans K1.out S1.out HL.out))⟩
set_option maxHeartbeats 1600000 in
theorem does_room {F : Nat → Prop} {p r : Nat} {a : TS} (op n : Int) (q : Option Addr) (c : Nat) (ys : List Int) (w : World) (e1 : wrap64 ((IntKind.u64.wrap op).tmod 9) = 7) (hn : n ≤ 9223372036854775807) (h : Two F w p r a a) (ha : a.ok)
    (hy : Lib.BytesIn w q ys.length ys) (hyl : ys.length ≤ 140737488355328) (hq : 0 < ys.length → ∀ d, q = some d → ¬ F d.block) :
    Calls Try.prog 23 #[.pointer (some ⟨p, 0, none⟩), .pointer (some ⟨r, 0, none⟩), .agg #[.int .i64 op, .int .i64 n, .slice q ys.length c]] w fun e w' => e = .returned (.bool true) ∧ ∃ a', TS.ok a' ∧ Left F w w' p r a' a' := by
  have H0 := Lib.hid (h.keep (X := fun _ => False) ((Keep.refl _ w).alloc (.cells #[.int .i64 op, .int .i64 n, .slice q ys.length c] 40)) (fun _ _ h => h))
  have B0 := Lib.hid (Blk.new w #[.int .i64 op, .int .i64 n, .slice q ys.length c] 40)
  have K0 := Lib.hid ((Keep.refl F w).alloc (.cells #[.int .i64 op, .int .i64 n, .slice q ys.length c] 40))
  have gF : ¬ F w.heap.size := fun h' => Nat.lt_irrefl _ (h.lt _ h')
  have HY := Lib.hid (bytes_keep (X := fun _ => False) hy ((Keep.refl _ w).alloc (.cells #[.int .i64 op, .int .i64 n, .slice q ys.length c] 40)) (fun _ _ _ h => h))
  have HQ := Lib.hid hq
  have HA := Lib.hid ha
  have hsub : ∀ k, F k → F k ∨ w.heap.size ≤ k := fun k h => .inl h
  go_enter Try.func23, Try.ntmps23
  go_upto_region 1 with fail
  generalize w.alloc (.cells #[.int .i64 op, .int .i64 n, .slice q ys.length c] 40) = w0 at *
  generalize hg : w.heap.size = g at *
  have lg := B0.out.lt
  have cb := B0.out.cell
  clear h ha hy hq
  go_upto_region 4 with fail
  rw [e1]
  clear e1
  have HTD := Lib.hid (H0.out.keep (X := fun _ => False) (Keep.refl _ w0).drew (fun _ _ h => h))
  have C1 : w0.drew.cell? ⟨g, 1, none⟩ = some (.int .i64 n) := B0.out.drew.cell 1
  have lgd : g < w0.drew.heap.size := lg
  go_upto_region 23 with fail
  refine wp_region_held_drew (S := fun w' => w'.cell? ⟨g, 1, none⟩ = some (.int .i64 n)) (by kernel_rfl) C1 (fun hS => ?_)
  refine wpAnyH_take (i := 0) (oi := ⟨_, _, _, _, _, _⟩) (v := ?_) rfl (by kernel_rfl) (by kernel_rfl) (by kernel_rfl) (fun _ _ _ h => h) (Or.inl ⟨by rfl, ?_⟩) hS ?_
  rotate_left
  · intro w0 hs; have s1 := hs; go_simp; try (with_reducible rfl)
  try simp only [Act.put, List.setIfInBounds_toArray, List.set_cons_zero, List.set_cons_succ]
  refine wpAnyH_take (i := 1) (oi := ⟨_, _, _, _, _, _⟩) (v := ?_) rfl (by kernel_rfl) (by kernel_rfl) (by kernel_rfl) (fun _ _ _ h => h) (Or.inl ⟨by rfl, ?_⟩) hS ?_
  rotate_left
  · intro w0 hs; have s1 := hs; go_simp; try (with_reducible rfl)
  try simp only [Act.put, List.setIfInBounds_toArray, List.set_cons_zero, List.set_cons_succ]
  refine wpAnyH_take (i := 2) (oi := ⟨_, _, _, _, _, _⟩) (v := ?_) rfl (by kernel_rfl) (by kernel_rfl) (by kernel_rfl) (fun _ _ _ h => h) (Or.inl ⟨by rfl, ?_⟩) hS ?_
  rotate_left
  · intro w0 hs; have s1 := hs; go_simp; try (with_reducible rfl)
  try simp only [Act.put, List.setIfInBounds_toArray, List.set_cons_zero, List.set_cons_succ]
  refine wpAnyH_take (i := 4) (oi := ⟨_, _, _, _, _, _⟩) (v := ?_) rfl (by kernel_rfl) (by kernel_rfl) (by kernel_rfl) (fun _ _ _ h => h) (Or.inl ⟨by rfl, ?_⟩) hS ?_
  rotate_left
  · intro w0 hs; have s1 := hs; go_simp; try (with_reducible rfl)
  try simp only [Act.put, List.setIfInBounds_toArray, List.set_cons_zero, List.set_cons_succ]
  refine wpAnyH_take (i := 5) (oi := ⟨_, _, _, _, _, _⟩) (v := ?_) rfl (by kernel_rfl) (by kernel_rfl) (by kernel_rfl) (fun _ _ _ h => h) (Or.inl ⟨by rfl, ?_⟩) hS ?_
  rotate_left
  · intro w0 hs; have s1 := hs; go_simp; try (with_reducible rfl)
  try simp only [Act.put, List.setIfInBounds_toArray, List.set_cons_zero, List.set_cons_succ]
  refine wpAnyH_take (i := 6) (oi := ⟨_, _, _, _, _, _⟩) (v := ?_) rfl (by kernel_rfl) (by kernel_rfl) (by kernel_rfl) (fun _ _ _ h => h) (Or.inl ⟨by rfl, ?_⟩) hS ?_
  rotate_left
  · intro w0 hs; have s1 := hs; go_simp; try (with_reducible rfl)
  try simp only [Act.put, List.setIfInBounds_toArray, List.set_cons_zero, List.set_cons_succ]
  refine wpAnyH_ready (rs := [3]) (by kernel_rfl) (by simp) ?_
  refine AllReadyH.cons (o := ⟨_, _, _, _, _, _⟩) rfl (fun K hK => ?_) AllReadyH.nil
  rw [if_pos (by rfl)]
  go_step
  refine (p_room n HTD.out).mono ?_
  rintro e w1 ⟨rfl, F1, t1, k1, s1⟩
  have SB := Lib.hid ((k1.cell (p := ⟨g, 1, none⟩) lgd gF).trans C1)
  have T1 := Lib.hid t1
  have K1 := Lib.hid k1
  have S1 := Lib.hid s1
  have nF1 : ¬ F1 g := fun h => (s1 g h).elim gF (fun h => by omega)
  have lg1 : g < w1.heap.size := Nat.lt_of_lt_of_le lgd k1.size
  clear t1 k1 s1
  simp only []
  refine hK.out _ _ (by first | exact SB2.out | exact SB.out | exact hS) (fun hS' => ?_)
  clear hS hK
  have hS := hS'; clear hS'
  try simp only [Act.put, List.setIfInBounds_toArray, List.set_cons_zero, List.set_cons_succ]
  refine wpAnyH_ready (rs := [7]) (by kernel_rfl) (by simp) ?_
  refine AllReadyH.cons (o := ⟨_, _, _, _, _, _⟩) rfl (fun K hK => ?_) AllReadyH.nil
  rw [if_pos (by rfl)]
  go_step
  refine (q_room n T1.out).mono ?_
  rintro e w2 ⟨rfl, hl2⟩
  have SB2 := Lib.hid (show w2.cell? ⟨g, 1, none⟩ = some (.int .i64 n) from by obtain ⟨F2, t2, k2, s2⟩ := hl2; exact (k2.cell (p := ⟨g, 1, none⟩) lg1 nF1).trans SB.out)
  have HL := Lib.hid hl2
  clear hl2
  simp only []
  refine hK.out _ _ (by first | exact SB2.out | exact SB.out | exact hS) (fun hS' => ?_)
  clear hS hK
  have hS := hS'; clear hS'
  try simp only [Act.put, List.setIfInBounds_toArray, List.set_cons_zero, List.set_cons_succ]
  refine wpAnyH_take (i := 8) (oi := ⟨_, _, _, _, _, _⟩) (v := ?_) rfl (by kernel_rfl) (by kernel_rfl) (by kernel_rfl) (fun _ _ _ h => h) (Or.inl ⟨by rfl, ?_⟩) hS ?_
  rotate_left
  · intro w0 hs; have s1 := hs; go_simp; try (with_reducible rfl)
  try simp only [Act.put, List.setIfInBounds_toArray, List.set_cons_zero, List.set_cons_succ]
  refine wpAnyH_take (i := 9) (oi := ⟨_, _, _, _, _, _⟩) (v := ?_) rfl (by kernel_rfl) (by kernel_rfl) (by kernel_rfl) (fun _ _ _ h => h) (Or.inl ⟨by rfl, ?_⟩) hS ?_
  rotate_left
  · intro w0 hs; have s1 := hs; go_simp; try (with_reducible rfl)
  try simp only [Act.put, List.setIfInBounds_toArray, List.set_cons_zero, List.set_cons_succ]
  refine wpAnyH_done (by kernel_rfl) ?_ _
  go_wp2
  go_ret
  exact ⟨by simp, _, ok_room HA.out, Left.trans K0.out (fun k e => .inl e) (Left.trans (Keep.refl F w0).drew (fun k e => .inl e) (Left.trans K1.out S1.out HL.out))⟩
set_option maxHeartbeats 1600000 in
theorem does_crash {F : Nat → Prop} {p r : Nat} {a : TS} (op n : Int) (q : Option Addr) (c : Nat) (ys : List Int) (w : World) (e1 : wrap64 ((IntKind.u64.wrap op).tmod 9) = 8) (hn : n ≤ 9223372036854775807) (h : Two F w p r a a) (ha : a.ok)
    (hy : Lib.BytesIn w q ys.length ys) (hyl : ys.length ≤ 140737488355328) (hq : 0 < ys.length → ∀ d, q = some d → ¬ F d.block) :
    Calls Try.prog 23 #[.pointer (some ⟨p, 0, none⟩), .pointer (some ⟨r, 0, none⟩), .agg #[.int .i64 op, .int .i64 n, .slice q ys.length c]] w fun e w' => e = .returned (.bool true) ∧ ∃ a', TS.ok a' ∧ Left F w w' p r a' a' := by
  have H0 := Lib.hid (h.keep (X := fun _ => False) ((Keep.refl _ w).alloc (.cells #[.int .i64 op, .int .i64 n, .slice q ys.length c] 40)) (fun _ _ h => h))
  have B0 := Lib.hid (Blk.new w #[.int .i64 op, .int .i64 n, .slice q ys.length c] 40)
  have K0 := Lib.hid ((Keep.refl F w).alloc (.cells #[.int .i64 op, .int .i64 n, .slice q ys.length c] 40))
  have gF : ¬ F w.heap.size := fun h' => Nat.lt_irrefl _ (h.lt _ h')
  have HY := Lib.hid (bytes_keep (X := fun _ => False) hy ((Keep.refl _ w).alloc (.cells #[.int .i64 op, .int .i64 n, .slice q ys.length c] 40)) (fun _ _ _ h => h))
  have HQ := Lib.hid hq
  have HA := Lib.hid ha
  have hsub : ∀ k, F k → F k ∨ w.heap.size ≤ k := fun k h => .inl h
  go_enter Try.func23, Try.ntmps23
  go_upto_region 1 with fail
  generalize w.alloc (.cells #[.int .i64 op, .int .i64 n, .slice q ys.length c] 40) = w0 at *
  generalize hg : w.heap.size = g at *
  have lg := B0.out.lt
  have cb := B0.out.cell
  clear h ha hy hq
  go_upto_region 4 with fail
  rw [e1]
  clear e1
  have P1 := Lib.hid (q_crash n H0.out HA.out)
  go_wp2_with fail
  refine P1.out.mono ?_
  rintro e w1 ⟨rfl, F1, t1, k1, s1⟩
  have P2 := Lib.hid (p_crash n t1 HA.out)
  have K1 := Lib.hid k1
  have S1 := Lib.hid s1
  have cb1 : w1.cell? ⟨g, 1, none⟩ = some (.int .i64 n) := (k1.cell (p := ⟨g, 1, none⟩) lg gF).trans (cb 1)
  clear t1 k1 s1
  go_wp2_with fail
  refine P2.out.mono ?_
  rintro e w2 ⟨rfl, hl2⟩
  have HL := Lib.hid hl2
  clear hl2
  go_wp2
  go_ret
  exact ⟨by simp, _, ok_crash HA.out, Left.trans K0.out (fun k e => .inl e) (Left.trans K1.out S1.out HL.out)⟩
end Go.Proofs.Ytfeljjbelnlojaa
