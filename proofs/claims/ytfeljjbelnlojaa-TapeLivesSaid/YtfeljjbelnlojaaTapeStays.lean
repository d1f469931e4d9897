/- The law TapeStays. -/
import Derived.Test.YtfeljjbelnlojaaTapeOwn
import Derived.Test.YtfeljjbelnlojaaTapeOpen
import Derived.Test.YtfeljjbelnlojaaTapeFuse
import Derived.Deep.RegionHeld3
namespace Go.Proofs.Ytfeljjbelnlojaa
open Go Go.RowKit
set_option linter.unusedSimpArgs false

theorem wp_append_run {P : Program} {w w' : World} {o : Oper} {a : Act} {K : Act → World → Prop} {Q : Exit → Act → World → Prop} (s x : Operand) (t : TypeId)
    (ho : o.op = .call { callee := .builtin .append, args := #[s, x], argTypes := #[t, t] }) {v1 v2 v' : Value} (hs : a.eval s = v1) (hx : a.eval x = v2)
    (hrun : (Builtin.append_ #[t, t] o.type #[v1, v2]).run P w = .ok v' w') (h : K (a.put o.dst v') w') : o.wp P a w K Q := by
  unfold Oper.wp
  simp [execOp, ho, resolve, invoke, builtin, hs, hx, hrun, Result.andThen]
  exact h
/-- Equal of a row and of bytes that are the same -/
theorem eq_rows {w : World} {q1 q2 : Option Addr} {c1 c2 : Nat} {xs : List Int} {o : Option Nat} (h1 : Row w 5 (.slice q1 xs.length c1) xs o) (h2 : Lib.BytesIn w q2 xs.length xs) :
    Calls Try.prog 15 #[.slice q1 xs.length c1, .slice q2 xs.length c2] w fun e w' => e = .returned (.bool true) ∧ w = w' := by
  obtain ⟨q, c, he, hb, _⟩ := h1.form
  simp at he
  obtain ⟨rfl, rfl⟩ := he
  refine (Try.bytes_Equal_all q1 q2 xs.length c1 xs.length c2 xs xs w rfl rfl hb h2).mono ?_
  rintro e w1 ⟨rfl, rfl⟩
  exact ⟨by rw [beq_self_eq_true], rfl⟩
theorem take_app (aa bs : List Int) (k : Nat) : (aa ++ bs).take (aa.length + k) = aa ++ bs.take k := by
  rw [List.take_append, List.take_of_length_le (by omega)]; simp

set_option maxRecDepth 100000 in
set_option maxHeartbeats 3200000 in
theorem stays_walk (qa qb : Option Addr) (capa capb la lb : Nat) (aa bs ks : List Int) (keep : Int) (w : World) (hla : la ≤ 9223372036854775807) (hlb : lb ≤ 9223372036854775807)
    (h1 : min (la : Int) 1000 = (aa.length : Int)) (h2 : min (lb : Int) 1000 = (bs.length : Int)) (hca : aa.length ≤ capa) (hcb : bs.length ≤ capb) (hcb2 : capb ≤ 9223372036854775807)
    (ha : Lib.BytesIn w qa aa.length aa) (hb : Lib.BytesIn w qb bs.length bs) (hkb : Lib.BytesIn w qb ks.length ks) (hks : min (max keep 0) (bs.length : Int) = (ks.length : Int)) (hkt : bs.take ks.length = ks) :
    Calls Try.prog 4 #[.slice qa la capa, .slice qb lb capb, .int .i64 keep] w fun e w' => e = .returned (.bool true) ∧ Below w.heap.size w w' := by
  have ha1 : aa.length ≤ 1000 := by omega
  have hb1 : bs.length ≤ 1000 := by omega
  have hk1 : ks.length ≤ bs.length := by omega
  have HA := Lib.hid ha
  have HB := Lib.hid hb
  have HK := Lib.hid hkb
  have HT := Lib.hid hkt
  have HC : Hid (crashN (aa ++ bs).length aa.length keep = aa.length + ks.length) := by show _ = _; rw [List.length_append]; unfold crashN; omega
  have P := Lib.hid (own_new w w 4000 (Below.refl _ _) (by decide) (by decide))
  clear ha hb hkb hkt
  go_enter Try.func4, Try.ntmps4
  go_wp2
  go_region
  generalize hw0 : w.drew = w0 at *
  have P := Lib.hid (own_new w w0 4000 (by rw [← hw0]; exact (Below.refl _ _).drew) (by decide) (by decide))
  clear hw0 h1 h2
  go_wp2_with fail
  refine P.out.mono ?_
  rintro e w1 ⟨p, rfl, ho⟩
  have PA := Lib.hid (own_append qa capa ho HA.out (by simp) (by omega) (by decide) (by decide) (by decide) (by decide))
  have aE := Lib.hid (app_fits (n := ([] : List Int).length) (m := aa.length) (ro := 4000) (fu := -1) (by decide) (by simp; omega))
  have aB := Lib.hid (appB_fits (xs := []) (ys := aa) (ro := 4000) (fu := -1) (by decide) (by simp; omega))
  clear ho P
  go_wp2_with fail
  refine PA.out.mono ?_
  rintro e w2 ⟨rfl, ho⟩
  rw [aE.out]
  rw [aB.out, List.nil_append, show burn (-1) = -1 from rfl] at ho
  have PS := Lib.hid (own_sync ho (by decide) (by decide))
  clear ho PA
  go_wp2_with fail
  refine PS.out.mono ?_
  rintro e w3 ⟨rfl, ho⟩
  rw [show burnE (-1) = 0 from rfl]
  rw [show syncN aa 0 (-1) = aa.length from if_neg (by decide), show burn (-1) = -1 from rfl] at ho
  have PA := Lib.hid (own_append qb capb ho HB.out (by omega) (by omega) (by decide) (by decide) (by decide) (by decide))
  have bE := Lib.hid (app_fits (n := aa.length) (m := bs.length) (ro := 4000) (fu := -1) (by decide) (by omega))
  have bB := Lib.hid (appB_fits (xs := aa) (ys := bs) (ro := 4000) (fu := -1) (by decide) (by omega))
  clear ho PS
  go_wp2_with fail
  refine PA.out.mono ?_
  rintro e w4 ⟨rfl, ho⟩
  rw [bE.out]
  rw [bB.out, show burn (-1) = -1 from rfl] at ho
  have PY := Lib.hid (own_synced ho)
  have PX := Lib.hid (own_crash keep ho (by rw [List.length_append]; omega) (by omega) (by rw [List.length_append]; omega))
  clear ho PA
  go_wp2_with fail
  refine PY.out.mono ?_
  rintro e w5 ⟨rfl, rfl⟩
  have q1 : ((aa.length : Int) != (aa.length : Int)) = false := by rw [bne_eq_false_iff_eq]
  go_wp2_with fail
  refine PX.out.mono ?_
  rintro e w5 ⟨rfl, ho⟩
  rw [HC.out, take_app, HT.out] at ho
  have hzl : (aa ++ ks).length = aa.length + ks.length := List.length_append
  have PB := Lib.hid (own_bytes (ho.more (Below.refl _ _).drew) (by omega))
  clear ho PX PY q1 hzl
  have hkc : ks.length ≤ capb := by omega
  have iw := IntWalk.i64_in ((aa.length : Int) + ks.length) (by omega)
  go_upto_region 6 with fail
  refine wp_region_held_drew (S := fun w' => True) (by kernel_rfl) trivial (fun hS => ?_)
  refine wpAnyH_take (i := 0) (oi := ⟨_, _, _, _, _, _⟩) (v := ?_) rfl (by kernel_rfl) (by kernel_rfl) (by kernel_rfl) (fun _ _ _ h => h) (Or.inl ⟨by rfl, ?_⟩) hS ?_
  rotate_left
  · intro w0 hs; skip; go_simp; try (with_reducible rfl)
  try simp only [Act.put, List.setIfInBounds_toArray, List.set_cons_zero, List.set_cons_succ]
  refine wpAnyH_take (i := 2) (oi := ⟨_, _, _, _, _, _⟩) (v := ?_) rfl (by kernel_rfl) (by kernel_rfl) (by kernel_rfl) (fun _ _ _ h => h) (Or.inl ⟨by rfl, ?_⟩) hS ?_
  rotate_left
  · intro w0 hs; skip; go_simp; try (with_reducible rfl)
  try simp only [Act.put, List.setIfInBounds_toArray, List.set_cons_zero, List.set_cons_succ]
  refine wpAnyH_take (i := 4) (oi := ⟨_, _, _, _, _, _⟩) (v := ?_) rfl (by kernel_rfl) (by kernel_rfl) (by kernel_rfl) (fun _ _ _ h => h) (Or.inl ⟨by rfl, ?_⟩) hS ?_
  rotate_left
  · intro w0 hs; skip; go_simp; try (with_reducible rfl)
  try simp only [Act.put, List.setIfInBounds_toArray, List.set_cons_zero, List.set_cons_succ]
  refine wpAnyH_take (i := 5) (oi := ⟨_, _, _, _, _, _⟩) (v := ?_) rfl (by kernel_rfl) (by kernel_rfl) (by kernel_rfl) (fun _ _ _ h => h) (Or.inl ⟨by rfl, ?_⟩) hS ?_
  rotate_left
  · intro w0 hs; skip; go_simp; try (with_reducible rfl)
  try simp only [Act.put, List.setIfInBounds_toArray, List.set_cons_zero, List.set_cons_succ]
  refine wpAnyH_take (i := 6) (oi := ⟨_, _, _, _, _, _⟩) (v := ?_) rfl (by kernel_rfl) (by kernel_rfl) (by kernel_rfl) (fun _ _ _ h => h) (Or.inl ⟨by rfl, ?_⟩) hS ?_
  rotate_left
  · intro w0 hs; skip; go_simp; try (with_reducible rfl)
  try simp only [Act.put, List.setIfInBounds_toArray, List.set_cons_zero, List.set_cons_succ]
  refine wpAnyH_ready (rs := [1]) (by kernel_rfl) (by simp) ?_
  refine AllReadyH.cons (o := ⟨_, _, _, _, _, _⟩) rfl (fun K hK => ?_) AllReadyH.nil
  rw [if_pos (by rfl)]
  go_step
  refine PB.out.mono ?_
  rintro e w6 ⟨q6, c6, rfl, ⟨o6, r6, ho6⟩, ho, hb6⟩
  have PC := Lib.hid (clone_arg qa capa aa w6 (bytes_keep HA.out (Keep.of_below (X := fun _ => False) ho.below) (fun _ _ _ h => h)) (by omega))
  have HO6 := Lib.hid ho
  have R6 := Lib.hid r6
  have G6 := Lib.hid ho6
  clear r6 ho6 ho hb6
  simp only []
  refine hK.out _ _ trivial (fun hS' => ?_)
  clear hS hK
  have hS := hS'; clear hS'
  try simp only [Act.put, List.setIfInBounds_toArray, List.set_cons_zero, List.set_cons_succ]
  refine wpAnyH_ready (rs := [3]) (by kernel_rfl) (by simp) ?_
  refine AllReadyH.cons (o := ⟨_, _, _, _, _, _⟩) rfl (fun K hK => ?_) AllReadyH.nil
  rw [if_pos (by rfl)]
  go_step
  refine PC.out.mono ?_
  rintro e w7 ⟨q7, c7, o7, rfl, r7, ho7, hb7⟩
  obtain ⟨i0, hi, hz0, hz1, hz2⟩ := info_parts u8info
  have ow7 := HO6.out.more hb7
  obtain ⟨v8, w8, o8, hrun, hrow, ho8, hk8⟩ := row_append (P := Try.prog) 28 28 i0 (.int .u8 0) Try.underlying28 hi hz0 hz1 hz2 rfl r7 (c := capb) (bytes_keep HK.out (Keep.of_below (X := fun _ => False) ow7.below) (fun _ _ _ h => h)) (by omega)
  have bel8 : Below w6.heap.size w7 w8 := hk8.below hb7.size (fun k hk => by
    have := ho7 k hk; omega)
  have HOWN8 := Lib.hid (HO6.out.more (hb7.trans bel8))
  have R68 := Lib.hid (R6.out.keep ((Keep.of_below (X := fun _ => False) hb7).trans' (hk8.mono (Y := fun k => o7 = some k) fun _ h => h) (fun k hk => .inr (ho7 k hk))) (fun _ _ h => h))
  generalize hzs : aa ++ ks = zs at *
  have HZS := Lib.hid hzs
  obtain ⟨q8, c8, rfl, hin8, _⟩ := hrow.form
  have HRUN := Lib.hid hrun
  have HIN8 := Lib.hid hin8
  clear hzs hi hz0 hz1 hz2 hrun hrow ho8 hk8 r7 ho7 hb7 ow7 bel8 hin8
  simp only []
  refine hK.out _ _ trivial (fun hS' => ?_)
  clear hS hK
  have hS := hS'; clear hS'
  try simp only [Act.put, List.setIfInBounds_toArray, List.set_cons_zero, List.set_cons_succ]
  refine wpAnyH_ready (rs := [7]) (by kernel_rfl) (by simp) ?_
  refine AllReadyH.cons (o := ⟨_, _, _, _, _, _⟩) rfl (fun K hK => ?_) AllReadyH.nil
  rw [if_pos (by rfl)]
  refine wp_append_run _ _ 28 rfl rfl rfl HRUN.out ?_
  have PE := Lib.hid (eq_rows (c2 := c8) R68.out HIN8.out)
  have PY := Lib.hid (own_synced HOWN8.out)
  clear HRUN R6 HO6 G6
  refine hK.out _ _ trivial (fun hS' => ?_)
  clear hS hK
  have hS := hS'; clear hS'
  try simp only [Act.put, List.setIfInBounds_toArray, List.set_cons_zero, List.set_cons_succ]
  refine wpAnyH_ready (rs := [8]) (by kernel_rfl) (by simp) ?_
  refine AllReadyH.cons (o := ⟨_, _, _, _, _, _⟩) rfl (fun K hK => ?_) AllReadyH.nil
  rw [if_pos (by rfl)]
  go_step
  refine PE.out.mono ?_
  rintro e w9 ⟨rfl, rfl⟩
  simp only []
  refine hK.out _ _ trivial (fun hS' => ?_)
  clear hS hK
  have hS := hS'; clear hS'
  try simp only [Act.put, List.setIfInBounds_toArray, List.set_cons_zero, List.set_cons_succ]
  refine wpAnyH_take (i := 9) (oi := ⟨_, _, _, _, _, _⟩) (v := ?_) rfl (by kernel_rfl) (by kernel_rfl) (by kernel_rfl) (fun _ _ _ h => h) (Or.inl ⟨by rfl, ?_⟩) hS ?_
  rotate_left
  · intro w0 hs; skip; go_simp; try (with_reducible rfl)
  try simp only [Act.put, List.setIfInBounds_toArray, List.set_cons_zero, List.set_cons_succ]
  refine wpAnyH_take (i := 10) (oi := ⟨_, _, _, _, _, _⟩) (v := ?_) rfl (by kernel_rfl) (by kernel_rfl) (by kernel_rfl) (fun _ _ _ h => h) (Or.inl ⟨by rfl, ?_⟩) hS ?_
  rotate_left
  · intro w0 hs; skip; go_simp; try (with_reducible rfl)
  try simp only [Act.put, List.setIfInBounds_toArray, List.set_cons_zero, List.set_cons_succ]
  refine wpAnyH_take (i := 12) (oi := ⟨_, _, _, _, _, _⟩) (v := ?_) rfl (by kernel_rfl) (by kernel_rfl) (by kernel_rfl) (fun _ _ _ h => h) (Or.inl ⟨by rfl, ?_⟩) hS ?_
  rotate_left
  · intro w0 hs; skip; go_simp; try (with_reducible rfl)
  try simp only [Act.put, List.setIfInBounds_toArray, List.set_cons_zero, List.set_cons_succ]
  refine wpAnyH_take (i := 13) (oi := ⟨_, _, _, _, _, _⟩) (v := ?_) rfl (by kernel_rfl) (by kernel_rfl) (by kernel_rfl) (fun _ _ _ h => h) (Or.inl ⟨by rfl, ?_⟩) hS ?_
  rotate_left
  · intro w0 hs; skip; go_simp; try (with_reducible rfl)
  try simp only [Act.put, List.setIfInBounds_toArray, List.set_cons_zero, List.set_cons_succ]
  refine wpAnyH_take (i := 14) (oi := ⟨_, _, _, _, _, _⟩) (v := ?_) rfl (by kernel_rfl) (by kernel_rfl) (by kernel_rfl) (fun _ _ _ h => h) (Or.inl ⟨by rfl, ?_⟩) hS ?_
  rotate_left
  · intro w0 hs; skip; go_simp; try (with_reducible rfl)
  try simp only [Act.put, List.setIfInBounds_toArray, List.set_cons_zero, List.set_cons_succ]
  refine wpAnyH_take (i := 15) (oi := ⟨_, _, _, _, _, _⟩) (v := ?_) rfl (by kernel_rfl) (by kernel_rfl) (by kernel_rfl) (fun _ _ _ h => h) (Or.inl ⟨by rfl, ?_⟩) hS ?_
  rotate_left
  · intro w0 hs; skip; go_simp; try (with_reducible rfl)
  try simp only [Act.put, List.setIfInBounds_toArray, List.set_cons_zero, List.set_cons_succ]
  refine wpAnyH_ready (rs := [11]) (by kernel_rfl) (by simp) ?_
  refine AllReadyH.cons (o := ⟨_, _, _, _, _, _⟩) rfl (fun K hK => ?_) AllReadyH.nil
  rw [if_pos (by rfl)]
  go_step
  refine PY.out.mono ?_
  rintro e w9 ⟨rfl, rfl⟩
  simp only []
  refine hK.out _ _ trivial (fun hS' => ?_)
  clear hS hK
  have hS := hS'; clear hS'
  try simp only [Act.put, List.setIfInBounds_toArray, List.set_cons_zero, List.set_cons_succ]
  refine wpAnyH_take (i := 16) (oi := ⟨_, _, _, _, _, _⟩) (v := ?_) rfl (by kernel_rfl) (by kernel_rfl) (by kernel_rfl) (fun _ _ _ h => h) (Or.inl ⟨by rfl, ?_⟩) hS ?_
  rotate_left
  · intro w0 hs; skip; go_simp; try (with_reducible rfl)
  try simp only [Act.put, List.setIfInBounds_toArray, List.set_cons_zero, List.set_cons_succ]
  refine wpAnyH_take (i := 17) (oi := ⟨_, _, _, _, _, _⟩) (v := ?_) rfl (by kernel_rfl) (by kernel_rfl) (by kernel_rfl) (fun _ _ _ h => h) (Or.inl ⟨by rfl, ?_⟩) hS ?_
  rotate_left
  · intro w0 hs; skip; go_simp; try (with_reducible rfl)
  try simp only [Act.put, List.setIfInBounds_toArray, List.set_cons_zero, List.set_cons_succ]
  refine wpAnyH_take (i := 18) (oi := ⟨_, _, _, _, _, _⟩) (v := ?_) rfl (by kernel_rfl) (by kernel_rfl) (by kernel_rfl) (fun _ _ _ h => h) (Or.inl ⟨by rfl, ?_⟩) hS ?_
  rotate_left
  · intro w0 hs; skip; go_simp; try (with_reducible rfl)
  try simp only [Act.put, List.setIfInBounds_toArray, List.set_cons_zero, List.set_cons_succ]
  refine wpAnyH_done (by kernel_rfl) ?_ _
  go_wp2
  go_ret
  exact ⟨rfl, HOWN8.out.below⟩
theorem stays_any (qa : Option Addr) (capa : Nat) (xs : List Int) (qb : Option Addr) (capb : Nat) (ys : List Int) (keep : Int) (w : World) (hla : xs.length ≤ 9223372036854775807)
    (ha : Lib.BytesIn w qa xs.length xs ∧ xs.length ≤ capa ∧ capa ≤ 9223372036854775807 ∧ (∀ x ∈ xs, 0 ≤ x ∧ x < 256) ∧ (qa = none → capa = 0)) (hlb : ys.length ≤ 9223372036854775807)
    (hb : Lib.BytesIn w qb ys.length ys ∧ ys.length ≤ capb ∧ capb ≤ 9223372036854775807 ∧ (∀ x ∈ ys, 0 ≤ x ∧ x < 256) ∧ (qb = none → capb = 0)) :
    Calls Try.prog 4 #[.slice qa xs.length capa, .slice qb ys.length capb, .int .i64 keep] w fun e w' => e = .returned (.bool true) ∧ Below w.heap.size w w' := by
  obtain ⟨a1, a2, a3, _, _⟩ := ha
  obtain ⟨b1, b2, b3, _, _⟩ := hb
  have e1 : (xs.take (min xs.length 1000)).length = min xs.length 1000 := by simp
  have e2 : (ys.take (min ys.length 1000)).length = min ys.length 1000 := by simp
  have i1 := BytesIn.take a1 (show min xs.length 1000 ≤ xs.length by omega) rfl
  have i2 := BytesIn.take b1 (show min ys.length 1000 ≤ ys.length by omega) rfl
  generalize xs.take (min xs.length 1000) = aa at *
  generalize ys.take (min ys.length 1000) = bs at *
  have e3 : (bs.take (min (max keep 0) (bs.length : Int)).toNat).length = (min (max keep 0) (bs.length : Int)).toNat := by simp; omega
  exact stays_walk qa qb capa capb xs.length ys.length aa bs (bs.take (min (max keep 0) (bs.length : Int)).toNat) keep w hla hlb (by omega) (by omega) (by omega) (by omega) b3 i1 i2 (BytesIn.take i2 (by omega) rfl) (by rw [e3]; omega) (by rw [e3])
end Go.Proofs.Ytfeljjbelnlojaa
