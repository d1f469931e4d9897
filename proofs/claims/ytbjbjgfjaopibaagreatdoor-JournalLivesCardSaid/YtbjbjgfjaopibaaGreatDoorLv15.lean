import Derived.Test.YtbjbjgfjaopibaaGreatDoorLv14
import Derived.Shelf.SlIter.Nil
import Derived.Shelf.SlGeneric
import Derived.Ground.GgzProg
import Derived.Test.YtbjbjgfjaopibaaGreatDoorProg
import Derived.Test.YtbjbjgfjaopibaaGreatDoorLv3
import Derived.Test.YtbjbjgfjaopibaaGreatDoorLv13
section
/- journal.Commit, walked. -/
namespace Go.Proofs.YtbjbjgfjaopibaaGreatDoor
open Go Go.RowKit Go.ChangeShapes Go.WideShapes Go.ChangeAt
set_option linter.unusedSimpArgs false
set_option linter.unusedVariables false
set_option maxRecDepth 100000

theorem RowOf.keep0 {X : Nat → Prop} {w w' : World} {v : Value} {A : Option Addr} {C : Nat} {Z : List Int} (h : RowOf w v A C Z) (hk : Keep X w w') (hn : 0 < Z.length → ∀ q, A = some q → ¬ X q.block) : RowOf w' v A C Z :=
  ⟨h.form, bytes_keep h.bytes hk hn, h.len, h.cap, h.most, h.none, h.range, fun q hq h0 => Nat.lt_of_lt_of_le (h.there q hq h0) hk.size⟩
theorem BatOk.keep {w w' : World} {X : BatchD} {Y N : Nat → Prop} (h : BatOk w X) (hn : BatIn N X) (hk : Keep Y w w') (hy : ∀ g, N g → ¬ Y g) : BatOk w' X := by
  refine ⟨⟨h.1.1, h.1.2.1, h.1.2.2.1, fun i hi => ?_⟩, ⟨h.2.1, h.2.2.1, h.2.2.2.1, fun i hi => ?_⟩⟩
  · obtain ⟨b, o, e, h2, hc, hok⟩ := h.1.2.2.2 i hi
    have hb : ¬ Y b := hy _ (hn.1 (by omega) _ e)
    exact ⟨b, o, e, h2, fun u hu => (hk.cell (p := ⟨b, o + i * 2 + u, none⟩) (cell_lt ((hc u hu).trans (List.getElem?_eq_getElem hu))) hb).trans (hc u hu), hok.1, hok.2.1.keep0 hk (fun h0 q hq => hy _ (hn.2.2 i hi h0 q hq)), hok.2.2⟩
  · obtain ⟨b, o, e, h2, hc, hok⟩ := h.2.2.2.2 i hi
    have hb : ¬ Y b := hy _ (hn.2.1 (by omega) _ e)
    exact ⟨b, o, e, h2, fun u hu => (hk.cell (p := ⟨b, o + i * 1 + u, none⟩) (cell_lt ((hc u hu).trans (List.getElem?_eq_getElem hu))) hb).trans (hc u hu), hok⟩
/-- two rows, one behind the other -/
theorem concat_two {w : World} {qb n1 c1 n2 c2 : Nat} {a1 a2 : Option Addr} {xs ys : List Int} (hb : Blk w qb #[.slice a1 n1 c1, .slice a2 n2 c2] 22) (h1 : Lib.BytesIn w a1 n1 xs) (h2 : Lib.BytesIn w a2 n2 ys) (l1 : xs.length = n1) (l2 : ys.length = n2) (hl : n1 + n2 ≤ 140737488355328) :
    Calls Tryz.prog 43 #[.slice (some ⟨qb, 0, none⟩) 2 2] w fun e w' => ∃ p c o, e = .returned (.slice p (n1 + n2) c) ∧ Row w' 5 (.slice p (n1 + n2) c) (xs ++ ys) o ∧ (∀ g, o = some g → w.heap.size ≤ g) ∧ Below w.heap.size w w' := by
  have hin : ∀ {a : Option Addr} {n : Nat} {zs : List Int}, Lib.BytesIn w a n zs → zs.length = n → 0 < n → ∃ pb po, a = some ⟨pb, po, none⟩ ∧ ∀ j u, (u8s zs)[j]? = some u → w.cell? ⟨pb, po + j, none⟩ = some u := fun {a n zs} h hl h0 => by
    obtain ⟨b, o, e, hc⟩ := h.at h0
    refine ⟨b, o, e, fun j u hu => ?_⟩
    have hj : j < zs.length := by
      have := (List.getElem?_eq_some_iff.1 hu).1; rwa [u8s_length] at this
    rw [hc j (by omega)]
    rw [← hu]
    simp [u8s, List.getD_eq_getElem?_getD, hj]
  have hC : CatIn w (some ⟨qb, 0, none⟩) 2 (fun i => if i = 0 then a1 else a2) (fun i => if i = 0 then n1 else n2) (fun i => if i = 0 then c1 else c2) (fun i => if i = 0 then u8s xs else u8s ys) := fun i hi => by
    refine ⟨qb, 0, rfl, ?_⟩
    rcases (by omega : i = 0 ∨ i = 1) with rfl | rfl
    · exact ⟨hb.cell 0, by simp [u8s_length, l1], fun u hu => by
        simp [u8s] at hu; obtain ⟨x, _, rfl⟩ := hu; rfl, fun h0 => hin h1 l1 (by simpa using h0)⟩
    · exact ⟨hb.cell 1, by simp [u8s_length, l2], fun u hu => by
        simp [u8s] at hu; obtain ⟨x, _, rfl⟩ := hu; rfl, fun h0 => hin h2 l2 (by simpa using h0)⟩
  refine (concat_B _ 2 2 _ _ _ _ w hC (by decide) (by simp [lenL]; omega)).mono ?_
  rintro e w1 ⟨v, o, rfl, R, ho, hb1⟩
  have e1 : lenL (fun i => if i = 0 then n1 else n2) 2 = n1 + n2 := by simp [lenL]
  have e2 : catL (fun i => if i = 0 then u8s xs else u8s ys) 2 = u8s (xs ++ ys) := by simp [catL, u8s]
  rw [e1, e2] at R
  obtain ⟨p, c, rfl, _⟩ := R.form
  exact ⟨p, c, o, rfl, R.toRow, ho, hb1⟩
theorem batB_byt' {w : World} {X : BatchD} (hX : BatOk w X) (hc : CanB (batX X)) : Byt (batB (batX X)) := batB_byt hc (fun q hq => by
  obtain ⟨i, hi, rfl⟩ := List.mem_map.1 hq
  obtain ⟨_, _, _, _, _, hok⟩ := hX.1.2.2.2 i (List.mem_range.1 hi)
  exact hok.2.1.range)
/-- what 'Commit' does when it comes to the tape -/
def ComTape (p j b : Nat) (x : BatD) (xs : List Int) (sy ro fu : Int) (o : Option Nat) (l : KV) (n : Nat) (N : Nat → Prop) (w : World) (e : Ending) (w' : World) : Prop :=
  ∃ o', (o' = o ∨ ∃ g, o' = some g ∧ w.heap.size ≤ g) ∧
    ((appE xs.length (frmX x).length ro fu ≠ 0 ∧ e = .returned (.int .i64 (appE xs.length (frmX x).length ro fu)) ∧ TapeAt w' p xs sy ro (burn fu) o' ∧ JAt (fun g => (N g ∨ w.heap.size ≤ g) ∧ ¬ foot p o' g ∧ g ≠ j ∧ g ≠ b) w' j b p l n true) ∨
     (appE xs.length (frmX x).length ro fu = 0 ∧ burnE (burn fu) ≠ 0 ∧ e = .returned (.int .i64 (burnE (burn fu))) ∧ TapeAt w' p (xs ++ frmX x) sy ro (burn (burn fu)) o' ∧ JAt (fun g => (N g ∨ w.heap.size ≤ g) ∧ ¬ foot p o' g ∧ g ≠ j ∧ g ≠ b) w' j b p l n true) ∨
     (appE xs.length (frmX x).length ro fu = 0 ∧ burnE (burn fu) = 0 ∧ e = .returned (.int .i64 0) ∧ TapeAt w' p (xs ++ frmX x) ((xs ++ frmX x).length : Int) ro (burn (burn fu)) o' ∧ JAt (fun g => (N g ∨ w.heap.size ≤ g) ∧ ¬ foot p o' g ∧ g ≠ j ∧ g ≠ b) w' j b p (doK l x) (n + 1) false))
theorem appB_ok {xs ys : List Int} {ro fu : Int} (h : appE xs.length ys.length ro fu = 0) : appB xs ys ro fu = xs ++ ys := by
  unfold appE at h
  unfold appB
  by_cases h1 : fu = 0
  · rw [if_pos h1] at h; cases h
  · rw [if_neg h1] at h ⊢
    by_cases h2 : ro - xs.length < ys.length
    · rw [if_pos h2] at h; cases h
    · rw [if_neg h2]
theorem appB_bad {xs ys : List Int} {ro fu : Int} (h : appE xs.length ys.length ro fu ≠ 0) : appB xs ys ro fu = xs := by
  unfold appE at h
  unfold appB
  by_cases h1 : fu = 0
  · rw [if_pos h1]
  · rw [if_neg h1] at h ⊢
    by_cases h2 : ro - xs.length < ys.length
    · rw [if_pos h2]
    · rw [if_neg h2] at h; exact absurd rfl h
theorem burn_rng {fu : Int} (h0 : -1 ≤ fu) (h1 : fu ≤ 9223372036854775807) : -1 ≤ burn fu ∧ burn fu ≤ 9223372036854775807 := by unfold burn; split <;> omega
/-- what 'Commit' answers -/
def ComPost (p j b : Nat) (x : BatD) (xs : List Int) (sy ro fu : Int) (o : Option Nat) (l : KV) (n : Nat) (hd : Bool) (N : Nat → Prop) (w : World) (e : Ending) (w' : World) : Prop :=
  Keep (fun k => foot p o k ∨ k = j ∨ k = b) w w' ∧
    ((¬ CanB x ∧ e = .returned (.int .i64 1) ∧ Below w.heap.size w w') ∨ (CanB x ∧ hd = true ∧ e = .returned (.int .i64 210) ∧ Below w.heap.size w w') ∨ (CanB x ∧ hd = false ∧ ComTape p j b x xs sy ro fu o l n N w e w'))
set_option maxHeartbeats 12800000 in
theorem jcommit (p j b : Nat) (X : BatchD) (xs : List Int) (sy ro fu : Int) (o : Option Nat) (l : KV) (n : Nat) (hd : Bool) (N : Nat → Prop) (w : World) (G : Glob w) (hT : TapeAt w p xs sy ro fu o) (hJ : JAt N w j b p l n hd) (hs : Srt l) (hxl : xs.length ≤ 16777216) (hr0 : 0 ≤ ro) (hr1 : ro ≤ 16777216) (hf0 : -1 ≤ fu) (hf1 : fu ≤ 9223372036854775807)
    (hl : l.length ≤ 1000000000000) (hn : n < 4611686018427387903) (hX : BatOk w X) (hXN : BatIn (fun g => ¬ foot p o g ∧ g ≠ j ∧ g ≠ b) X) (hNT : ∀ k, foot p o k → ¬ N k ∧ k ≠ j ∧ k ≠ b) :
    Calls Tryz.prog 13 #[.pointer (some ⟨j, 0, none⟩), .agg (batCs X).toArray] w (ComPost p j b (batX X) xs sy ro fu o l n hd N w) := by
  change Calls Tryz.prog 13 #[.pointer (some ⟨j, 0, none⟩), .agg #[.slice X.puts.a X.puts.n X.puts.c, .slice X.dels.a X.dels.n X.dels.c]] w _
  have k0 := (Below.refl w.heap.size w).alloc (Nat.le_refl _) (.cells #[.slice X.puts.a X.puts.n X.puts.c, .slice X.dels.a X.dels.n X.dels.c] 41)
  have bn := Blk.new w #[.slice X.puts.a X.puts.n X.puts.c, .slice X.dels.a X.dels.n X.dels.c] 41
  have PW := pwrite X (w.alloc (.cells #[.slice X.puts.a X.puts.n X.puts.c, .slice X.dels.a X.dels.n X.dels.c] 41)) (hX.below k0)
  change Calls Tryz.prog 42 #[.agg #[.slice X.puts.a X.puts.n X.puts.c, .slice X.dels.a X.dels.n X.dels.c]] _ _ at PW
  have PN := jnone j ⟨p, 0, none⟩ (w.alloc (.cells #[.slice X.puts.a X.puts.n X.puts.c, .slice X.dels.a X.dels.n X.dels.c] 41)) ((hJ.more k0).1.cell 0)
  have HW := Lib.hid (And.intro (And.intro G (And.intro hT (And.intro hJ (And.intro hs (And.intro hxl (And.intro hr0 (And.intro hr1 (And.intro hf0 (And.intro hf1 (And.intro hl (And.intro hn (And.intro hX (And.intro hXN hNT))))))))))))) (And.intro k0 bn))
  have c0 := bn.cell 0
  have c1 := bn.cell 1
  clear G hT hJ hs hxl hr0 hr1 hf0 hf1 hl hn hX hXN hNT k0 bn
  obtain ⟨pn, hpn⟩ : ∃ pn, pn = X.puts.n := ⟨_, rfl⟩
  obtain ⟨dn, hdn⟩ : ∃ dn, dn = X.dels.n := ⟨_, rfl⟩
  obtain ⟨pa, hpa⟩ : ∃ pa, pa = X.puts.a := ⟨_, rfl⟩
  obtain ⟨da, hda⟩ : ∃ da, da = X.dels.a := ⟨_, rfl⟩
  obtain ⟨pc, hpc⟩ : ∃ pc, pc = X.puts.c := ⟨_, rfl⟩
  obtain ⟨dc, hdc⟩ : ∃ dc, dc = X.dels.c := ⟨_, rfl⟩
  rw [← hpn, ← hdn, ← hpa, ← hda, ← hpc, ← hdc] at HW PW PN c0 c1 ⊢
  have HN := Lib.hid (And.intro hpn (And.intro hdn (And.intro hpa (And.intro hda (And.intro hpc hdc)))))
  clear hpn hdn hpa hda hpc hdc
  go_enter Tryz.func13, Tryz.ntmps13
  go_upto_region 1 with fail
  generalize w.alloc (.cells #[.slice pa pn pc, .slice da dn dc] 41) = w0 at *
  have PN := Lib.hid PN
  have PW := Lib.hid PW
  clear c0 c1
  have c0 := HW.out.2.2.cell 0
  have c1 := HW.out.2.2.cell 1
  go_wp2_with fail
  refine PN.out.mono ?_
  rintro e w' ⟨rfl, rfl⟩
  go_wp2_with fail
  refine PW.out.mono ?_
  rintro e w1 ⟨hb1, hcase⟩
  have hb01 : Below w.heap.size w w1 := HW.out.2.1.trans (hb1.mono HW.out.2.1.size)
  rcases hcase with ⟨hcan, p1, cc1, o1, rfl, R1, ho1⟩ | ⟨hcan, v, rfl⟩
  · have J1 := HW.out.1.2.2.1.more hb01
    have hbl : (batB (batX X)).length ≤ 1048576 := hcan.len
    obtain ⟨_, _, e1, hy1, hle1, hcm1, hq1⟩ := R1.form
    cases e1
    have H1 := Lib.hid (And.intro hb01 (And.intro hcan (And.intro R1 (And.intro ho1 (And.intro hb1 (And.intro hy1 (And.intro hle1 J1)))))))
    have c3 : w1.cell? ⟨j, 3, none⟩ = some (.bool hd) := J1.1.cell 3
    clear hb01 hcan R1 ho1 hb1 hy1 hle1 hq1 J1 c0 c1
    obtain ⟨bl, hbln⟩ : ∃ bl, bl = (batB (batX X)).length := ⟨_, rfl⟩
    rw [← hbln] at hbl ⊢
    have HBL := Lib.hid hbln
    clear hbln
    cases hd
    · have PH := phead (batB (batX X)) p1 cc1 w1.drew ((HW.out.1.1.below H1.out.1).drew) H1.out.2.2.2.2.2.1 (batB_byt' HW.out.1.2.2.2.2.2.2.2.2.2.2.2.1 H1.out.2.1) H1.out.2.2.2.2.2.2.1 (by rw [← HBL.out]; omega)
      rw [← HBL.out] at PH
      have PH := Lib.hid PH
      have cj0 : w1.drew.cell? ⟨j, 0, none⟩ = some (.pointer (some ⟨p, 0, none⟩)) := H1.out.2.2.2.2.2.2.2.1.cell 0
      go_upto_region 8 with fail
      refine wp_region_held_drew (S := fun w' => w'.cell? ⟨j, 0, none⟩ = some (.pointer (some ⟨p, 0, none⟩))) (by kernel_rfl) cj0 (fun hS => ?_)
      refine tkH 0 (v := ?_) rfl (by kernel_rfl) ⟨by rfl, ?_⟩ hS ?_
      rotate_left
      · intro w0 hs; skip; go_simp; try (with_reducible rfl)
      try simp only [Act.put, List.setIfInBounds_toArray, List.set_cons_zero, List.set_cons_succ]
      refine tkH 1 (v := ?_) rfl (by kernel_rfl) ⟨by rfl, ?_⟩ hS ?_
      rotate_left
      · intro w0 hs; skip; go_simp; try (with_reducible rfl)
      try simp only [Act.put, List.setIfInBounds_toArray, List.set_cons_zero, List.set_cons_succ]
      refine tkH 2 (v := ?_) rfl (by kernel_rfl) ⟨by rfl, ?_⟩ hS ?_
      rotate_left
      · intro w0 hs; skip; go_simp; try (with_reducible rfl)
      try simp only [Act.put, List.setIfInBounds_toArray, List.set_cons_zero, List.set_cons_succ]
      refine tkH 3 (v := ?_) rfl (by kernel_rfl) ⟨by rfl, ?_⟩ hS ?_
      rotate_left
      · intro w0 hs; skip; go_simp; try (with_reducible rfl)
      try simp only [Act.put, List.setIfInBounds_toArray, List.set_cons_zero, List.set_cons_succ]
      refine tkH 4 (v := ?_) rfl (by kernel_rfl) ⟨by rfl, ?_⟩ hS ?_
      rotate_left
      · intro w0 hs; skip; go_simp; try (with_reducible rfl)
      try simp only [Act.put, List.setIfInBounds_toArray, List.set_cons_zero, List.set_cons_succ]
      refine tkH 6 (v := ?_) rfl (by kernel_rfl) ⟨by rfl, ?_⟩ hS ?_
      rotate_left
      · intro w0 hs; skip; go_simp; try (with_reducible rfl)
      try simp only [Act.put, List.setIfInBounds_toArray, List.set_cons_zero, List.set_cons_succ]
      refine wpAnyH_ready (rs := [5]) (by kernel_rfl) (by simp) ?_
      refine AllReadyH.cons (o := ⟨_, _, _, _, _, _⟩) rfl (fun K hK => ?_) AllReadyH.nil
      rw [if_pos (by rfl)]
      go_step
      refine PH.out.mono ?_
      rintro e w2 ⟨p2, c2, o2, rfl, R2, ho2, hb2⟩
      simp only []
      refine hK.out _ _ ((hb2.cell (p := ⟨j, 0, none⟩) (cell_lt hS)).trans hS) (fun hS' => ?_)
      clear hS hK
      have hS := hS'; clear hS'
      try simp only [Act.put, List.setIfInBounds_toArray, List.set_cons_zero, List.set_cons_succ]
      refine wpAnyH_ready (rs := [7]) (by kernel_rfl) (by simp) ?_
      refine AllReadyH.cons (o := ⟨_, _, _, _, _, _⟩) rfl (fun K hK => ?_) AllReadyH.nil
      rw [if_pos (by rfl)]
      go_simp
      refine hK.out _ _ ((((Keep.refl (fun _ => False) w2).alloc (.cells #[.slice p2 12 c2, .slice p1 bl cc1] 22)).cell (p := ⟨j, 0, none⟩) (cell_lt hS) (fun h => h)).trans hS) (fun hS' => ?_)
      clear hS hK
      have hS := hS'; clear hS'
      try simp only [Act.put, List.setIfInBounds_toArray, List.set_cons_zero, List.set_cons_succ]
      refine wpAnyH_ready (rs := [8]) (by kernel_rfl) (by simp) ?_
      refine AllReadyH.cons (o := ⟨_, _, _, _, _, _⟩) rfl (fun K hK => ?_) AllReadyH.nil
      rw [if_pos (by rfl)]
      go_step
      have kA : Below w.heap.size w w2 := H1.out.1.drew.trans (hb2.mono H1.out.1.size)
      have kB := kA.alloc kA.size (.cells #[.slice p2 12 c2, .slice p1 bl cc1] 22)
      have PC := concat_two (w := w2.alloc (.cells #[.slice p2 12 c2, .slice p1 bl cc1] 22)) (xs := headB (batB (batX X))) (ys := batB (batX X)) (Blk.new w2 #[.slice p2 12 c2, .slice p1 bl cc1] 22) (by obtain ⟨_, _, e2, hy2, _⟩ := R2.form; cases e2; rw [headB_len] at hy2; exact bytes_keep hy2 ((Keep.refl (fun _ => False) w2).alloc _) (fun _ _ _ h => h)) (by have h := bytes_keep H1.out.2.2.2.2.2.1 (((Keep.refl (fun _ => False) w1).drew.trans (Keep.of_below hb2)).alloc (.cells #[.slice p2 12 c2, .slice p1 bl cc1] 22)) (fun _ _ _ h => h); rw [← HBL.out] at h; exact h) (headB_len _) HBL.out.symm (by omega)
      refine PC.mono ?_
      rintro e w3 ⟨p3, c3', o3, rfl, R3, ho3, hb3⟩
      simp only []
      refine hK.out _ _ ((hb3.cell (p := ⟨j, 0, none⟩) (cell_lt hS)).trans hS) (fun hS' => ?_)
      clear hS hK
      have hS := hS'; clear hS'
      try simp only [Act.put, List.setIfInBounds_toArray, List.set_cons_zero, List.set_cons_succ]
      refine wpAnyH_ready (rs := [9]) (by kernel_rfl) (by simp) ?_
      refine AllReadyH.cons (o := ⟨_, _, _, _, _, _⟩) rfl (fun K hK => ?_) AllReadyH.nil
      rw [if_pos (by rfl)]
      go_step
      have kC : Below w.heap.size w w3 := kB.trans (hb3.mono kB.size)
      have T3 := HW.out.1.2.1.keep (Keep.of_below (X := fun _ => False) kC) (fun _ _ h => h)
      obtain ⟨_, _, e3, hy3, _, _, hq3⟩ := R3.form
      have hfl : (frmX (batX X)).length = 12 + bl := by unfold frmX; rw [frmB_len, ← HBL.out]
      have e3' := e3
      injection e3' with e31 e32 e33
      subst e31
      have hqn : ∀ a, p3 = some a → foot p o a.block → False := fun a ha hf => by have hlt := HW.out.1.2.1.lt _ hf; have hkA := kB.size; exact hq3.elim (fun h => by rw [h.1] at ha; cases ha) (fun ⟨g3, h1, h2, _⟩ => by rw [h2] at ha; cases ha; have := ho3 _ h1; simp only at hlt; omega)
      have PA := tappend p xs (frmX (batX X)) sy ro fu o p3 c3' w3 T3 hy3 (fun h0 a ha hf => hqn a ha hf) HW.out.1.2.2.2.2.1 (by rw [hfl]; omega) HW.out.1.2.2.2.2.2.1 HW.out.1.2.2.2.2.2.2.1 HW.out.1.2.2.2.2.2.2.2.1 HW.out.1.2.2.2.2.2.2.2.2.1
      rw [hfl] at PA
      refine PA.mono ?_
      rintro e w4 ⟨rfl, ⟨o4, T4, ho4⟩, k4⟩
      simp only []
      refine hK.out _ _ ((k4.cell (p := ⟨j, 0, none⟩) (cell_lt hS) (fun h => (HW.out.1.2.2.2.2.2.2.2.2.2.2.2.2.2 _ h).2.1 rfl)).trans hS) (fun hS' => ?_)
      clear hS hK
      have hS := hS'; clear hS'
      try simp only [Act.put, List.setIfInBounds_toArray, List.set_cons_zero, List.set_cons_succ]
      refine tkH 10 (v := ?_) rfl (by kernel_rfl) ⟨by rfl, ?_⟩ hS ?_
      rotate_left
      · intro w0 hs; skip; go_simp; try (with_reducible rfl)
      try simp only [Act.put, List.setIfInBounds_toArray, List.set_cons_zero, List.set_cons_succ]
      refine wpAnyH_done (by kernel_rfl) ?_ _
      have hfl2 : (headB (batB (batX X))).length + (batB (batX X)).length = (frmX (batX X)).length := by rw [hfl, headB_len, ← HBL.out]
      rw [hfl2]
      have hNT := HW.out.1.2.2.2.2.2.2.2.2.2.2.2.2.2
      have hw3 : w.heap.size ≤ w3.heap.size := kC.size
      have J0 : JAt (fun g => (N g ∨ w.heap.size ≤ g) ∧ ¬ foot p o4 g ∧ g ≠ j ∧ g ≠ b) w j b p l n false := HW.out.1.2.2.1.mono (fun g hg hl => ⟨.inl hg, fun hf => by
        rcases hf with rfl | hf
        · exact (hNT _ (.inl rfl)).1 hg
        · rcases ho4 with h | ⟨g4, h, hle⟩
          · rw [h] at hf; exact (hNT _ (.inr hf)).1 hg
          · rw [h] at hf; cases hf; omega, (HW.out.1.2.2.1.2.2.2 g hg).1, (HW.out.1.2.2.1.2.2.2 g hg).2⟩) (fun g hg => ⟨hg.2.2.1, hg.2.2.2⟩)
      have J4 : JAt (fun g => (N g ∨ w.heap.size ≤ g) ∧ ¬ foot p o4 g ∧ g ≠ j ∧ g ≠ b) w4 j b p l n false := (J0.more kC).keep k4 (fun h => (hNT _ h).2.1 rfl) (fun h => (hNT _ h).2.2 rfl) (fun g hg _ hf => hg.1.elim (fun h => (hNT _ hf).1 h) (fun h => by have := HW.out.1.2.1.lt _ hf; omega))
      have K4 : Keep (fun x => foot p o x ∨ x = j ∨ x = b) w w4 := (Keep.of_below kC).trans (k4.mono fun x h => .inl h)
      have hft4 : ∀ x, foot p o4 x → x = p ∨ foot p o x ∨ w.heap.size ≤ x := fun x hx => by
        rcases hx with rfl | hx
        · exact .inl rfl
        · rcases ho4 with h | ⟨g4, h, hle⟩
          · rw [h] at hx; exact .inr (.inl (.inr hx))
          · rw [h] at hx; cases hx; exact .inr (.inr (by omega))
      have hso : o4 = o ∨ ∃ g, o4 = some g ∧ w.heap.size ≤ g := ho4.imp id fun ⟨g, h1, h2⟩ => ⟨g, h1, by omega⟩
      have hjl : j < w.heap.size ∧ b < w.heap.size := HW.out.1.2.2.1.lt
      have hfj : ∀ x, foot p o4 x → x ≠ j ∧ x ≠ b := fun x hx => by
        rcases hft4 x hx with rfl | h | h
        · exact (hNT _ (.inl rfl)).2
        · exact (hNT _ h).2
        · exact ⟨by omega, by omega⟩
      obtain ⟨E1, hE1⟩ : ∃ E1, E1 = appE xs.length (frmX (batX X)).length ro fu := ⟨_, rfl⟩
      rw [← hE1]
      have HE := Lib.hid hE1
      have HA := Lib.hid (And.intro T4 (And.intro J4 (And.intro K4 (And.intro hso hfj))))
      have HJL := Lib.hid (And.intro hjl (And.intro (HW.out.2.2) (And.intro kC (And.intro k4 hft4))))
      have hgf : ¬ foot p o w.heap.size := fun h => by have := HW.out.1.2.1.lt _ h; omega
      have bx3 : Blk w3 w.heap.size #[.slice pa pn pc, .slice da dn dc] 41 := (((Keep.refl (fun _ => False) w2).alloc (.cells #[.slice p2 12 c2, .slice p1 bl cc1] 22)).blk ((show Blk w1.drew w.heap.size _ _ from HW.out.2.2.beyond (w' := w1) H1.out.2.2.2.2.1).beyond hb2) (fun h => h)).beyond hb3
      have hg3 : w.heap.size < w3.heap.size := bx3.lt
      have hg4 : ¬ foot p o4 w.heap.size := fun h => by
        rcases h with h | h
        · exact hgf (.inl h)
        · rcases ho4 with h4 | ⟨g4, h4, hle⟩
          · rw [h4] at h; exact hgf (.inr h)
          · rw [h4] at h; cases h; omega
      have HBX := Lib.hid (And.intro (k4.blk bx3 hgf) hg4)
      clear hgf bx3 hg3 hg4
      clear hE1 T4 J4 K4 hso hfj hft4 J0 hNT hjl kC kA kB T3 hy3 hq3 e3 e32 hqn R3 ho3 hb3 R2 ho2 hb2 ho4 k4 hfl hfl2 hS c3 cj0 hw3
      by_cases hE0 : E1 = 0
      · have hT4 : TapeAt w4 p (xs ++ frmX (batX X)) sy ro (burn fu) o4 := by have h := HA.out.1; rw [appB_ok (by rw [← HE.out]; exact hE0)] at h; exact h
        have hbr := burn_rng HW.out.1.2.2.2.2.2.2.2.1 HW.out.1.2.2.2.2.2.2.2.2.1
        have PS := Lib.hid (tsync p (xs ++ frmX (batX X)) sy ro (burn fu) o4 w4 hT4 hbr.1 hbr.2)
        have cj0 := HA.out.2.1.1.cell 0
        have HE0 := Lib.hid hE0
        subst hE0
        clear hT4 hbr
        go_wp2_with fail
        refine PS.out.mono ?_
        rintro e w5 ⟨rfl, T5, k5⟩
        have hK5 : Keep (fun x => foot p o x ∨ x = j ∨ x = b) w w5 := HA.out.2.2.1.trans' k5 (fun x hx => by
          rcases HJL.out.2.2.2.2 x hx with rfl | h | h
          · exact .inl (.inl (.inl rfl))
          · exact .inl (.inl h)
          · exact .inr h)
        have J5 := HA.out.2.1.keep k5 (fun h => (HA.out.2.2.2.2 _ h).1 rfl) (fun h => (HA.out.2.2.2.2 _ h).2 rfl) (fun g hg _ hf => hg.2.1 hf)
        obtain ⟨E2, hE2⟩ : ∃ E2, E2 = burnE (burn fu) := ⟨_, rfl⟩
        rw [← hE2]
        have HEE := Lib.hid hE2
        clear hE2
        by_cases hE20 : E2 = 0
        · have hT5 : TapeAt w5 p (xs ++ frmX (batX X)) ((xs ++ frmX (batX X)).length : Int) ro (burn (burn fu)) o4 := by
            have h := T5
            unfold syncN at h
            rw [if_neg (fun e => by have := HEE.out; rw [hE20, e] at this; cases this)] at h
            exact h
          have HE20 := Lib.hid hE20
          subst hE20
          have b6 : Blk (w5.setCell ⟨j, 3, none⟩ (.bool false)) j #[.pointer (some ⟨p, 0, none⟩), .map (some b), .int .i64 (n : Int), .bool false] 74 := J5.1.set 3 _
          have k6 : Keep (fun k => k = j) w5 (w5.setCell ⟨j, 3, none⟩ (.bool false)) := Keep.set (X := fun k => k = j) (Keep.refl _ w5) (p := ⟨j, 3, none⟩) (.inl rfl) _
          have M6 := J5.2.1.keep k6 (fun e => J5.2.2.1 e.symm) (fun g hg _ e => (J5.2.2.2 g hg).1 e)
          have T6 := hT5.keep k6 (fun x hx e => (HA.out.2.2.2.2 x hx).1 e)
          have K6 := hK5.trans (k6.mono fun x e => .inr (.inl e))
          have X6 := HW.out.1.2.2.2.2.2.2.2.2.2.2.2.1.keep HW.out.1.2.2.2.2.2.2.2.2.2.2.2.2.1 K6 (fun g hg e => by rcases e with e | e | e; exact hg.1 e; exact hg.2.1 e; exact hg.2.2 e)
          have bx6 : Blk (w5.setCell ⟨j, 3, none⟩ (.bool false)) w.heap.size #[.slice pa pn pc, .slice da dn dc] 41 := k6.blk (k5.blk HBX.out.1 HBX.out.2) (by have := HJL.out.1; omega)
          have hpn : X.puts.n ≤ 140737488351232 := HW.out.1.2.2.2.2.2.2.2.2.2.2.2.1.1.2.1.1
          have hpc : X.puts.n ≤ 20000 := by have := H1.out.2.1.puts; simpa [batX] using this
          have PD := pdo j b (.pointer (some ⟨p, 0, none⟩)) (.bool false) n l (fun g => (N g ∨ w.heap.size ≤ g) ∧ ¬ foot p o4 g ∧ g ≠ j ∧ g ≠ b) X (w5.setCell ⟨j, 3, none⟩ (.bool false)) b6 M6 HW.out.1.2.2.2.1 (by have := HW.out.1.2.2.2.2.2.2.2.2.2.1; omega) (by have := HW.out.1.2.2.2.2.2.2.2.2.2.2.1; omega) J5.2.2.2 J5.2.2.1 X6 (HW.out.1.2.2.2.2.2.2.2.2.2.2.2.2.1.mono fun g h => ⟨h.2.1, h.2.2⟩)
          rw [← HN.out.1, ← HN.out.2.1, ← HN.out.2.2.1, ← HN.out.2.2.2.1, ← HN.out.2.2.2.2.1, ← HN.out.2.2.2.2.2] at PD
          have h56 : (w5.setCell ⟨j, 3, none⟩ (.bool false)).heap.size = w5.heap.size := by simp [World.setCell]
          have cj3 := J5.1.cell 3
          have fj3 := J5.1.free 3
          have cb0 := bx6.cell 0
          have cb1 := bx6.cell 1
          have cj36 := b6.cell 3
          have H6 := Lib.hid (And.intro T6 (And.intro K6 (And.intro h56 (And.intro J5 (hK5.size)))))
          have hsz5 : w.heap.size ≤ w5.heap.size := hK5.size
          clear hT5 b6 k6 M6 T6 K6 X6 bx6 hpn hpc J5 hK5 k5 T5
          go_upto_region 12 with fail
          generalize w5.setCell ⟨j, 3, none⟩ (.bool false) = w6 at *
          have PD := Lib.hid PD
          go_wp2_with fail
          refine PD.out.mono ?_
          rintro e w7 ⟨rfl, k7, b7, m7⟩
          have J7 : JAt (fun g => (N g ∨ w.heap.size ≤ g) ∧ ¬ foot p o4 g ∧ g ≠ j ∧ g ≠ b) w7 j b p (doK l (batX X)) (n + 1) false :=
            ⟨b7, m7.mono (fun g hg _ => hg.elim id fun h => by
              have h5 : w5.heap.size ≤ g := by rw [← H6.out.2.2.1]; exact h
              have hj := HJL.out.1
              exact ⟨.inr (by omega), fun hf => by have := H6.out.1.lt _ hf; omega, by omega, by omega⟩), H6.out.2.2.2.1.2.2⟩
          have T7 := H6.out.1.keep k7 (fun x hx e => e.elim (HA.out.2.2.2.2 x hx).1 (HA.out.2.2.2.2 x hx).2)
          have K7 := H6.out.2.1.trans (k7.mono fun x e => .inr e)
          have H7 := Lib.hid (And.intro J7 (And.intro T7 K7))
          clear J7 T7 K7 k7 b7 m7 PD cj3 fj3 cb0 cb1 cj36
          go_wp2
          go_ret
          exact ⟨H7.out.2.2, .inr (.inr ⟨H1.out.2.1, rfl, o4, HA.out.2.2.2.1, .inr (.inr ⟨by rw [← HE.out], by rw [← HEE.out], rfl, H7.out.2.1, H7.out.1⟩)⟩)⟩
        · have hT5 : TapeAt w5 p (xs ++ frmX (batX X)) sy ro (burn (burn fu)) o4 := by
            have h := T5
            unfold syncN at h
            rw [if_pos (by
              have h2 : burnE (burn fu) ≠ 0 := by rw [← HEE.out]; exact hE20
              unfold burnE at h2
              exact Decidable.byContradiction fun hb => h2 (if_neg hb))] at h
            exact h
          have n2 : (E2 != 0) = true := by simpa using hE20
          have b6 : Blk (w5.setCell ⟨j, 3, none⟩ (.bool true)) j #[.pointer (some ⟨p, 0, none⟩), .map (some b), .int .i64 (n : Int), .bool true] 74 := J5.1.set 3 _
          have k6 : Keep (fun k => k = j) w5 (w5.setCell ⟨j, 3, none⟩ (.bool true)) := Keep.set (X := fun k => k = j) (Keep.refl _ w5) (p := ⟨j, 3, none⟩) (.inl rfl) _
          have M6 := J5.2.1.keep k6 (fun e => J5.2.2.1 e.symm) (fun g hg _ e => (J5.2.2.2 g hg).1 e)
          have T6 := TapeAt.keep hT5 k6 (fun x hx e => (HA.out.2.2.2.2 x hx).1 e)
          have K6 : Keep (fun x => foot p o x ∨ x = j ∨ x = b) w (w5.setCell ⟨j, 3, none⟩ (.bool true)) := Keep.trans hK5 (k6.mono fun x e => .inr (.inl e))
          have J6 : JAt (fun g => (N g ∨ w.heap.size ≤ g) ∧ ¬ foot p o4 g ∧ g ≠ j ∧ g ≠ b) (w5.setCell ⟨j, 3, none⟩ (.bool true)) j b p l n true := ⟨b6, M6, J5.2.2⟩
          have HF := Lib.hid (And.intro J6 (And.intro T6 K6))
          have cj3 := J5.1.cell 3
          have fj3 := J5.1.free 3
          clear b6 k6 M6 T6 K6 J6
          have HE20 := Lib.hid hE20
          clear hT5 J5 hK5 T5 k5
          go_wp2
          go_ret
          exact ⟨HF.out.2.2, .inr (.inr ⟨H1.out.2.1, rfl, o4, HA.out.2.2.2.1, .inr (.inl ⟨by rw [← HE.out], by rw [← HEE.out]; exact HE20.out, by rw [← HEE.out]; rfl, HF.out.2.1, HF.out.1⟩)⟩)⟩
      · have hT4 : TapeAt w4 p xs sy ro (burn fu) o4 := by have h := HA.out.1; rw [appB_bad (by rw [← HE.out]; exact hE0)] at h; exact h
        have n1 : (E1 == 0) = false := by simpa using hE0
        have n2 : (E1 != 0) = true := by simpa using hE0
        have b6 : Blk (w4.setCell ⟨j, 3, none⟩ (.bool true)) j #[.pointer (some ⟨p, 0, none⟩), .map (some b), .int .i64 (n : Int), .bool true] 74 := HA.out.2.1.1.set 3 _
        have k6 : Keep (fun k => k = j) w4 (w4.setCell ⟨j, 3, none⟩ (.bool true)) := Keep.set (X := fun k => k = j) (Keep.refl _ w4) (p := ⟨j, 3, none⟩) (.inl rfl) _
        have M6 := HA.out.2.1.2.1.keep k6 (fun e => HA.out.2.1.2.2.1 e.symm) (fun g hg _ e => (HA.out.2.1.2.2.2 g hg).1 e)
        have T6 := TapeAt.keep hT4 k6 (fun x hx e => (HA.out.2.2.2.2 x hx).1 e)
        have K6 : Keep (fun x => foot p o x ∨ x = j ∨ x = b) w (w4.setCell ⟨j, 3, none⟩ (.bool true)) := Keep.trans HA.out.2.2.1 (k6.mono fun x e => .inr (.inl e))
        have J6 : JAt (fun g => (N g ∨ w.heap.size ≤ g) ∧ ¬ foot p o4 g ∧ g ≠ j ∧ g ≠ b) (w4.setCell ⟨j, 3, none⟩ (.bool true)) j b p l n true := ⟨b6, M6, HA.out.2.1.2.2⟩
        have HF := Lib.hid (And.intro J6 (And.intro T6 K6))
        have cj3 := HA.out.2.1.1.cell 3
        have fj3 := HA.out.2.1.1.free 3
        clear b6 k6 M6 T6 K6 J6
        have HE0 := Lib.hid hE0
        clear hT4
        go_wp2
        go_ret
        exact ⟨HF.out.2.2, .inr (.inr ⟨H1.out.2.1, rfl, o4, HA.out.2.2.2.1, .inl ⟨by rw [← HE.out]; exact HE0.out, by rw [← HE.out]; rfl, HF.out.2.1, HF.out.1⟩⟩)⟩
    · go_wp2
      go_ret
      exact ⟨Keep.of_below H1.out.1, .inr (.inl ⟨H1.out.2.1, rfl, rfl, H1.out.1⟩)⟩
  · have HF := Lib.hid (And.intro hb01 hcan)
    clear hb01 hcan hb1
    go_wp2
    go_ret
    exact ⟨Keep.of_below HF.out.1, .inl ⟨HF.out.2, rfl, HF.out.1⟩⟩
end Go.Proofs.YtbjbjgfjaopibaaGreatDoor
end

section
/-
  DERIVED: THE SHELF's CONTRACTS AT THIS DUMP, IN PLAIN WORDS (tools/lay-plain.mjs out of 'TryzIterLay.lean', which tools/lay-shelf.mjs wrote): THE SAME DECLARATIONS UNDER THE SAME NAMES: 'import', 'namespace', 'open', 'def', 'theorem' AND NOTHING ELSE: no command of the shelf's: FOR A HAND-IN. Each laying: the table of numbers ('.._ren') and one theorem, a field a fact of the dump's own or the kernel's comparison; each contract: ONE APPLICATION.
-/
namespace Go.Proofs
open Go.Shelf
def Tryz.keysM_ren : Go.Shelf.Ren := ⟨fun | 7 => 54 | 10 => 76 | n => n, fun | 23 => 72 | 26 => 9 | 3 => 22 | 28 => 87 | 0 => 0 | 27 => 86 | 33 => 91 | 4 => 4 | n => n, fun | n => n⟩
theorem Tryz.keysM : Go.Proofs.SlLaysZ.n7 Tryz.prog Tryz.keysM_ren := {
  mixed := by kernel_rfl
  f7 := ⟨Tryz.f54.name, by decide, Tryz.func54.trans (congrArg some (by kernel_rfl))⟩
  f10 := ⟨Tryz.f76.name, by decide, Tryz.func76.trans (congrArg some (by kernel_rfl))⟩
  t0 := Tryz.underlying0
  a0 := Tryz.isAgg0
  z0 := Tryz.sizeOf0
  v0 := Tryz.zeroValue0
  t4 := Tryz.underlying4
  a4 := Tryz.isAgg4
  z4 := Tryz.sizeOf4
  v4 := Tryz.zeroValue4
  t23 := Tryz.underlying72
  a23 := Tryz.isAgg72
  z23 := Tryz.sizeOf72
  v23 := Tryz.zeroValue72
  t26 := Tryz.underlying9
  a26 := Tryz.isAgg9
  z26 := Tryz.sizeOf9
  v26 := Tryz.zeroValue9
  t27 := Tryz.underlying86
  a27 := Tryz.isAgg86
  z27 := Tryz.sizeOf86
  v27 := Tryz.zeroValue86
  t28 := Tryz.underlying87
  a28 := Tryz.isAgg87
  z28 := Tryz.sizeOf87
  v28 := Tryz.zeroValue87
  t33 := Tryz.underlying91
  a33 := Tryz.isAgg91
  z33 := Tryz.sizeOf91
  v33 := Tryz.zeroValue91 }
def Tryz.sortedS_ren : Go.Shelf.Ren := ⟨fun | 6 => 53 | 8 => 74 | 9 => 75 | 11 => 85 | 13 => 87 | 12 => 86 | 23 => 105 | 24 => 106 | 14 => 96 | 15 => 97 | 16 => 98 | 17 => 99 | 18 => 100 | 19 => 101 | 20 => 102 | 21 => 103 | 22 => 104 | 25 => 112 | 26 => 113 | 27 => 114 | 28 => 115 | 29 => 116 | 30 => 117 | 31 => 120 | n => n, fun | 26 => 9 | 28 => 87 | 24 => 39 | 0 => 0 | 3 => 3 | 37 => 24 | 48 => 122 | 50 => 97 | 4 => 4 | 40 => 127 | 39 => 126 | 45 => 131 | 5 => 5 | 9 => 9 | 51 => 147 | 55 => 151 | 57 => 156 | 58 => 157 | 33 => 91 | n => n, fun | n => n⟩
theorem Tryz.sortedS : Go.Proofs.SlLaysZ.n6 Tryz.prog Tryz.sortedS_ren := {
  mixed := by kernel_rfl
  f6 := ⟨Tryz.f53.name, by decide, Tryz.func53.trans (congrArg some (by kernel_rfl))⟩
  f8 := ⟨Tryz.f74.name, by decide, Tryz.func74.trans (congrArg some (by kernel_rfl))⟩
  f11 := ⟨Tryz.f85.name, by decide, Tryz.func85.trans (congrArg some (by kernel_rfl))⟩
  t0 := Tryz.underlying0
  a0 := Tryz.isAgg0
  z0 := Tryz.sizeOf0
  v0 := Tryz.zeroValue0
  t24 := Tryz.underlying39
  a24 := Tryz.isAgg39
  z24 := Tryz.sizeOf39
  v24 := Tryz.zeroValue39
  t26 := Tryz.underlying9
  a26 := Tryz.isAgg9
  z26 := Tryz.sizeOf9
  v26 := Tryz.zeroValue9
  t28 := Tryz.underlying87
  a28 := Tryz.isAgg87
  z28 := Tryz.sizeOf87
  v28 := Tryz.zeroValue87
  i26 := by kernel_rfl }
end Go.Proofs
end

section
/-
  DERIVED. MADE BY PROGRAM (lay-iter.mjs) off ytbjbjgfjaopibaadoor.cut.gsa: THE SHELF's CONTRACTS ON 'slices.Sorted(maps.Keys(m))' LAID AT THIS DUMP: 1 map type. NO WALK OF THE LIBRARY's TEXT: each is one application of a contract over any P and ρ (Derived/Shelf/SlIter/, Derived/Shelf/SortM/).
-/
namespace Go.Proofs
open Go.RowKit Go.Maps Go.Sort Go.Shelf

/-- slices.Sort's two contracts at this dump, at the fence that asks nothing. -/
theorem Tryz.sortsS (m : Nat) : AnyZ.SortsIn Tryz.prog Tryz.sortedS_ren Fence.wide m :=
  ⟨fun blk off cap ss W hH hblk hsz => callsIn_wide.2 (Tryz.slices_Sort_string blk off cap ss W hH hblk hsz),
   fun p cap W => callsIn_wide.2 (Tryz.slices_Sort_string_none p cap W)⟩

/-- **maps.Keys[map[string][]byte,string,[]byte], at whatever map, the nil one too:** a function value over ONE NEW BLOCK, which holds the map. -/
theorem Tryz.maps_KeysM (mb : Option Nat) (W : World) : CallsIn Fence.wide 5 Tryz.prog 54 #[.map mb] W fun e w' => e = .returned (.func (.func 76) #[] #[.pointer (some ⟨W.heap.size, 0, none⟩)]) ∧ w' = W.alloc (.cells #[.map mb] 72) :=
  AnyZ.keys_in Tryz.keysM Fence.wide 5 trivial rfl mb W

set_option maxHeartbeats 1000000 in
/-- **slices.Sorted[string] AT WHAT maps.Keys[map[string][]byte,string,[]byte] HANDED BACK FOR A MAP THAT IS NOT nil** ('w': the world AHEAD of maps.Keys' call): A NEW SLICE THAT HOLDS THE MAP's KEYS, SORTED; nil just where it has none; nothing that lay before has turned. -/
theorem Tryz.slices_SortedM {H : Type} (b nn : Nat) (D0 : DataW H) (R : Value → Option (DataW H × List MemPlace)) (w : World) (hown : w.ownsMap Tryz.prog 9 R b nn D0) (hmax : Maps.size D0 ≤ maxLen) (hbytes : Maps.size D0 * 16 ≤ 140737488355328) :
    CallsIn Fence.wide 5 Tryz.prog 53 #[.func (.func 76) #[] #[.pointer (some ⟨w.heap.size, 0, none⟩)]] (w.alloc (.cells #[.map (some b)] 72)) fun e w' => ∃ (v : Value) (ss : List (List UInt8)), e = .returned v ∧ ss.Perm (strKeys D0) ∧
      w'.ownsRow (w.alloc (.cells #[.map (some b)] 72)).heap.size 9 1 v ss.length ((ss.mergeSort (fun x y => decide (x ≤ y))).map encStr) ∧ (v = .slice none 0 0 ↔ ss = []) ∧ Below (w.alloc (.cells #[.map (some b)] 72)).heap.size (w.alloc (.cells #[.map (some b)] 72)) w' := by
  have hbl := hown.lt
  have hseq : SeqGives Fence.wide 2 Tryz.prog 76 #[.pointer (some ⟨w.heap.size, 0, none⟩)] encStr (fun ss => ss.Perm (strKeys D0)) (Maps.size D0) (w.alloc (.cells #[.map (some b)] 72)) :=
    AnyZ.keys_gives (ρ := Tryz.keysM_ren) { Tryz.keysM with } Fence.wide _ trivial rfl (by omega) w.heap.size b nn D0 _ (by simp) (by simp) (by
      obtain ⟨es, clock, hb, Ft, hs, hD⟩ := hown
      exact ⟨es, clock, (Below.heap_alloc _ _ b hbl).trans hb, Ft, hs, hD⟩)
  exact AnyZ.sorted_in Tryz.sortedS Fence.wide 5 trivial trivial trivial trivial rfl (by omega) (Tryz.sortsS _) (enters_of Tryz.func75 (by kernel_rfl) rfl) 76 #[.pointer (some ⟨w.heap.size, 0, none⟩)] trivial (enters_of Tryz.func76 (by kernel_rfl) rfl) _ _ hmax hbytes _ hseq

set_option maxHeartbeats 1000000 in
/-- **.. AND FOR THE nil MAP: nil.** -/
theorem Tryz.slices_SortedM_nil (w : World) :
    CallsIn Fence.wide 5 Tryz.prog 53 #[.func (.func 76) #[] #[.pointer (some ⟨w.heap.size, 0, none⟩)]] (w.alloc (.cells #[.map none] 72)) fun e w' => ∃ (v : Value) (ss : List (List UInt8)), e = .returned v ∧ ss = [] ∧
      w'.ownsRow (w.alloc (.cells #[.map none] 72)).heap.size 9 1 v ss.length ((ss.mergeSort (fun x y => decide (x ≤ y))).map encStr) ∧ (v = .slice none 0 0 ↔ ss = []) ∧ Below (w.alloc (.cells #[.map none] 72)).heap.size (w.alloc (.cells #[.map none] 72)) w' := by
  have hseq : SeqGives Fence.wide 2 Tryz.prog 76 #[.pointer (some ⟨w.heap.size, 0, none⟩)] encStr (fun ss : List (List UInt8) => ss = []) 0 (w.alloc (.cells #[.map none] 72)) :=
    AnyZ.keys_gives_nil (ρ := Tryz.keysM_ren) { Tryz.keysM with } Fence.wide _ trivial rfl w.heap.size _ (by simp) (by simp)
  exact AnyZ.sorted_in Tryz.sortedS Fence.wide 5 trivial trivial trivial trivial rfl (by omega) (Tryz.sortsS _) (enters_of Tryz.func75 (by kernel_rfl) rfl) 76 #[.pointer (some ⟨w.heap.size, 0, none⟩)] trivial (enters_of Tryz.func76 (by kernel_rfl) rfl) _ 0 (Nat.zero_le _) (by omega) _ hseq

end Go.Proofs
end

section
/- The journal's keys, sorted. -/
namespace Go.Proofs.YtbjbjgfjaopibaaGreatDoor
open Go Go.RowKit Go.Maps Go.Sort
set_option linter.unusedSimpArgs false
set_option linter.unusedVariables false
set_option maxRecDepth 100000

theorem srt_keys {l : KV} (h : Srt l) : (l.map (·.1)).Pairwise (fun a b => a < b) := List.pairwise_map.2 h
theorem JMap.keys {N : Nat → Prop} {w : World} {b : Nat} {l : KV} (h : JMap N w b l) (hs : Srt l) (hk : ∀ p ∈ l, p.1.length ≤ 100) :
    ∃ D : DataW Value, w.ownsMap Tryz.prog 9 RV b l.length D ∧ Maps.size D = l.length ∧ ∀ ss : List (List UInt8), ss.Perm (strKeys D) → ss.mergeSort (fun x y => decide (x ≤ y)) = l.map (·.1) := by
  obtain ⟨f, ⟨D, h1, h2, h3⟩, h4⟩ := h
  refine ⟨D, h1, h2, fun ss hp => ?_⟩
  have hlt := srt_keys hs
  have hnd : (l.map (·.1)).Nodup := List.Pairwise.imp (R := fun a b => a < b) (fun {a b} h => (fun e => klt_irrefl a (by rw [← e] at h; exact h) : a ≠ b)) hlt
  have hmem : ∀ x : List UInt8, x ∈ l.map (·.1) ↔ Maps.has D (.string x) = true := fun x => by
    by_cases hx : x.length ≤ maxLen
    · have hkey : keyOf Tryz.prog 9 (.string (sK x)) = some (.string x) := keyOf_string Tryz.underlying9 _ (by show x.toArray.size ≤ maxLen; simpa using hx)
      rw [(h3 _ _ hkey).1, h4.isSome, bsK_sK, getK_isSome]
    · constructor
      · intro hm
        obtain ⟨p, hp', rfl⟩ := List.mem_map.1 hm
        have := hk p hp'; unfold maxLen at hx; omega
      · intro hh
        obtain ⟨es, rfl, hko⟩ := h1.keysOf
        have hm : x ∈ strKeys (DataW.map es) := by
          rw [has_eq, List.any_eq_true] at hh
          obtain ⟨p, hp', hsk⟩ := hh
          refine List.mem_map.2 ⟨p, hp', ?_⟩
          obtain ⟨v, hv⟩ := hko p hp'
          obtain ⟨a, _, ha, _⟩ := Maps.keyOf_str Tryz.underlying9 hv
          rw [ha] at hsk ⊢
          simpa [Lit.sameKey, strOf] using hsk
        exact absurd (strKeys_le h1 Tryz.underlying9 x hm) hx
  have hper : (l.map (·.1)).Perm (strKeys D) := by
    refine Collected.perm (left := fun _ => false) ⟨hnd, fun x => by rw [hmem x]; simp⟩ h1 (string_keyed Tryz.underlying9) Tryz.underlying9 (fun _ => rfl)
  have := mergeSort_of_perm (hp.trans hper.symm)
  show ss.mergeSort Go.leB = _
  rw [this]
  refine List.mergeSort_of_pairwise ?_
  exact hlt.imp fun {a b} h => by simpa [Go.leB] using List.le_of_lt h
end Go.Proofs.YtbjbjgfjaopibaaGreatDoor
end

section
/- slices.DeleteFunc over strings; the closure of Keys. -/
namespace Go.Proofs.YtbjbjgfjaopibaaGreatDoor
open Go Go.RowKit
set_option linter.unusedSimpArgs false
set_option linter.unusedVariables false
set_option maxRecDepth 100000

theorem pnoprefix (k p : ByteArray) (g : Nat) (w : World) (h : w.cell? ⟨g, 0, none⟩ = some (.string p)) :
    Calls Tryz.prog 56 #[.string k, .pointer (some ⟨g, 0, none⟩)] w fun e w' => e = .returned (.bool (!Lib.hasPrefix k.data.toList p.data.toList)) ∧ w' = w := by
  have PP := Lib.hid (Tryz.strings_HasPrefix k p w)
  go_enter Tryz.func56, Tryz.ntmps56
  go_wp2_with fail
  refine PP.out.mono ?_
  rintro e w' ⟨rfl, rfl⟩
  go_wp2
  go_ret
  exact ⟨rfl, rfl⟩
/-- a list of strings in memory -/
def StrsAt (w : World) (q : Option Addr) (ss : List ByteArray) : Prop := ∀ i (h : i < ss.length), ∃ b o, q = some ⟨b, o, none⟩ ∧ w.cell? ⟨b, o + i, none⟩ = some (.string ss[i])
/-- where the first stands of which P holds -/
def firstI (P : ByteArray → Bool) (ss : List ByteArray) : Int := match ss.findIdx? P with | some i => (i : Int) | none => -1
set_option maxHeartbeats 1600000 in
theorem pindexf (ss : List ByteArray) (q : Option Addr) (c : Nat) (g : Nat) (P : ByteArray → Bool) (w : World) (h : StrsAt w q ss) (hl : ss.length ≤ 9223372036854775807)
    (hf : ∀ k, Calls Tryz.prog 56 #[.string k, .pointer (some ⟨g, 0, none⟩)] w fun e w' => e = .returned (.bool (P k)) ∧ w' = w) :
    Calls Tryz.prog 77 #[.slice q ss.length c, .func (.func 56) #[] #[.pointer (some ⟨g, 0, none⟩)]] w fun e w' => e = .returned (.int .i64 (firstI P ss)) ∧ w' = w := by
  have HH := Lib.hid (And.intro h hf)
  clear h hf
  obtain ⟨n, hn⟩ : ∃ n, n = ss.length := ⟨_, rfl⟩
  rw [← hn] at hl ⊢
  have HN := Lib.hid hn
  clear hn
  go_enter Tryz.func77, Tryz.ntmps77
  go_wp2
  go_loopg [8] n (fun gh i wx => ∃ k : Nat, k ≤ n ∧ i = .int .i64 (k : Int) ∧ gh = n - k ∧ Hid (∀ i (h : i < ss.length), i < k → P ss[i] = false) ∧ wx = w)
  case atStart => exact ⟨0, Nat.zero_le _, rfl, rfl, fun i _ hi => absurd hi (Nat.not_lt_zero i), rfl⟩
  case round =>
    obtain ⟨k, hk, rfl, hg, HK, hwx⟩ := hrel
    have HG := Lib.hid hg
    obtain rfl : w = wr := hwx.symm
    clear hg
    by_cases hlt : k < n
    · have hks : k < ss.length := by rw [← HN.out]; exact hlt
      obtain ⟨b, off, rfl, hc⟩ := HH.out.1 k hks
      have PF := Lib.hid (HH.out.2 ss[k])
      have hPs : ∃ s bs, s = ss[k] ∧ bs = P s := ⟨_, _, rfl, rfl⟩
      obtain ⟨s, bs, hs, hbs⟩ := hPs
      rw [← hs] at hc PF
      rw [← hbs] at PF
      have HSB := Lib.hid (And.intro hs hbs)
      clear hs hbs
      go_wp2_with fail
      refine PF.out.mono ?_
      rintro e w' ⟨rfl, rfl⟩
      cases bs
      · have HK2 := Lib.hid (show ∀ i (h : i < ss.length), i < k + 1 → P ss[i] = false from fun i h hi => by
          rcases Nat.lt_or_ge i k with h1 | h1
          · exact HK.out i h h1
          · obtain rfl : i = k := by omega
            rw [← HSB.out.1, ← HSB.out.2])
        go_wp2
        go_roundg (n - (k + 1))
        case measure => rw [HG.out]; omega
        case rel => exact ⟨k + 1, hlt, rfl, rfl, HK2.out, rfl⟩
      · have hfi : firstI P ss = (k : Int) := by
          unfold firstI
          have : ss.findIdx? P = some k := List.findIdx?_eq_some_iff_getElem.2 ⟨hks, by rw [← HSB.out.1, ← HSB.out.2], fun j hj => by simpa using HK.out j (by omega) hj⟩
          rw [this]
        have HFI := Lib.hid hfi
        clear hfi
        go_wp2
        go_ret
        exact ⟨by rw [HFI.out]; rfl, rfl⟩
    · obtain rfl : k = n := by omega
      have hfi : firstI P ss = -1 := by
        unfold firstI
        have : ss.findIdx? P = none := List.findIdx?_eq_none_iff.2 fun x hx => by
          obtain ⟨i, hi, rfl⟩ := List.getElem_of_mem hx
          exact HK.out i hi (by rw [HN.out]; exact hi)
        rw [this]
      have HFI := Lib.hid hfi
      clear hfi
      go_wp2
      go_ret
      exact ⟨by rw [HFI.out]; rfl, rfl⟩
/-- nothing is deleted where P holds of none -/
theorem pdelete_none (ss : List ByteArray) (q : Option Addr) (c : Nat) (g : Nat) (P : ByteArray → Bool) (w : World) (h : StrsAt w q ss) (hl : ss.length ≤ 9223372036854775807)
    (hf : ∀ k, Calls Tryz.prog 56 #[.string k, .pointer (some ⟨g, 0, none⟩)] w fun e w' => e = .returned (.bool (P k)) ∧ w' = w) (hP : ∀ s ∈ ss, P s = false) :
    Calls Tryz.prog 55 #[.slice q ss.length c, .func (.func 56) #[] #[.pointer (some ⟨g, 0, none⟩)]] w fun e w' => e = .returned (.slice q ss.length c) ∧ w' = w := by
  have PI := pindexf ss q c g P w h hl hf
  rw [show firstI P ss = -1 from by unfold firstI; rw [List.findIdx?_eq_none_iff.2 hP]] at PI
  have PI := Lib.hid PI
  clear h hf hP
  generalize ss.length = n at *
  go_enter Tryz.func55, Tryz.ntmps55
  go_wp2_with fail
  refine PI.out.mono ?_
  rintro e w' ⟨rfl, rfl⟩
  go_wp2
  go_ret
  exact ⟨rfl, rfl⟩
end Go.Proofs.YtbjbjgfjaopibaaGreatDoor
end

section
/- journal.Keys, walked where no prefix is asked for. -/
namespace Go.Proofs.YtbjbjgfjaopibaaGreatDoor
open Go Go.RowKit Go.Maps
set_option linter.unusedSimpArgs false
set_option linter.unusedVariables false
set_option maxRecDepth 100000

theorem noPrefix (k : ByteArray) : (!Lib.hasPrefix k.data.toList (⟨#[]⟩ : ByteArray).data.toList) = false := by
  simp [Lib.hasPrefix]
set_option maxHeartbeats 1600000 in
theorem jkeys0 (j b : Nat) (t : Addr) (nv hv : Value) (l : KV) (N : Nat → Prop) (w : World) (h : Blk w j #[.pointer (some t), .map (some b), nv, hv] 74) (hM : JMap N w b l) (hs : Srt l) (hk : ∀ p ∈ l, p.1.length ≤ 100) (hl : l.length ≤ 1000000000000) :
    Calls Tryz.prog 31 #[.pointer (some ⟨j, 0, none⟩), .string ⟨#[]⟩] w fun e w' => ∃ q c o, e = .returned (.slice q l.length c) ∧ RowV w' 9 1 (.slice q l.length c) l.length (l.map fun p => .string (sK p.1)) o ∧ (∀ g, o = some g → w.heap.size ≤ g) ∧ Below w.heap.size w w' := by
  have k0 := (Below.refl w.heap.size w).alloc (Nat.le_refl _) (.cells #[.string ⟨#[]⟩] 9)
  have b0 := Blk.new w #[.string ⟨#[]⟩] 9
  have HW := Lib.hid (And.intro (h.beyond k0) (And.intro (hM.keep (X := fun _ => False) ((Keep.refl _ w).alloc _) (fun h => h) (fun _ _ _ h => h) : JMap N (w.alloc (.cells #[.string ⟨#[]⟩] 9)) b l) (And.intro hs (And.intro hk (And.intro hl (And.intro k0 b0))))))
  clear h hM hs hk hl k0 b0
  go_enter Tryz.func31, Tryz.ntmps31
  go_upto_region 1 with fail
  generalize w.alloc (.cells #[.string ⟨#[]⟩] 9) = w0 at *
  have PN := Lib.hid (jnone j t w0 (HW.out.1.cell 0))
  have c1 : w0.cell? ⟨j, 1, none⟩ = some (.map (some b)) := HW.out.1.cell 1
  obtain ⟨D, hD, hDn, hDs⟩ := HW.out.2.1.keys HW.out.2.2.1 HW.out.2.2.2.1
  have PK := Lib.hid (callsIn_wide.1 (Tryz.maps_KeysM (some b) w0))
  have PS := Lib.hid (callsIn_wide.1 (Tryz.slices_SortedM b l.length D RV w0 hD (by rw [hDn]; unfold maxLen; have := HW.out.2.2.2.2.1; omega) (by rw [hDn]; have := HW.out.2.2.2.2.1; omega)))
  go_wp2_with (first | (refine PN.out.mono ?_; rintro e w' ⟨rfl, rfl⟩) | (refine PK.out.mono ?_; rintro e w' ⟨rfl, rfl⟩) | fail)
  refine PS.out.mono ?_
  rintro e w2 ⟨v, ss, rfl, hS, hrow, hnil, hb2⟩
  have hsl : ss.length = l.length := by
    have := congrArg List.length (hDs ss hS)
    simpa using this
  rw [hDs ss hS, hsl] at hrow
  obtain ⟨o, R, ho, _⟩ := RowV.of_owns hrow
  obtain ⟨q, c, rfl, hle, hcm, _⟩ := R.form
  have hst : StrsAt w2 q (l.map fun p => sK p.1) := fun i hi => by
    have hi' : i < l.length := by simpa using hi
    obtain ⟨g, cap, _, e1, _, _, _, hc, _⟩ := R.mem (by omega)
    cases e1
    refine ⟨g, 0, rfl, ?_⟩
    rw [Nat.zero_add, hc i (by omega)]
    simp [hi', Go.Proofs.encStr, sK]
  have hbx : Below w'.heap.size w' w2 := ((Below.refl _ w').alloc (Nat.le_refl _) (.cells #[.map (some b)] 72)).trans (hb2.mono (by simp))
  have hcx : w2.cell? ⟨w.heap.size, 0, none⟩ = some (.string ⟨#[]⟩) := (HW.out.2.2.2.2.2.2.beyond hbx).cell 0
  have PD := pdelete_none (l.map fun p => sK p.1) q c w.heap.size (fun k => !Lib.hasPrefix k.data.toList (⟨#[]⟩ : ByteArray).data.toList) w2 hst (by have := HW.out.2.2.2.2.1; simp; omega) (fun k => pnoprefix k ⟨#[]⟩ w.heap.size w2 hcx) (fun s _ => noPrefix s)
  rw [List.length_map] at PD
  have PD := Lib.hid PD
  have HF := Lib.hid (And.intro R (And.intro ho (And.intro hbx (HW.out.2.2.2.2.2.1))))
  clear R ho hbx hcx hst hrow hnil hb2 hS hsl
  generalize hln : l.length = ln at *
  have HLN := Lib.hid hln
  clear hln
  go_wp2_with fail
  refine PD.out.mono ?_
  rintro e w3 ⟨rfl, rfl⟩
  go_wp2
  go_ret
  refine ⟨q, c, o, by rw [HLN.out]; rfl, ?_, fun g hg => ?_, HF.out.2.2.2.trans (HF.out.2.2.1.mono HF.out.2.2.2.size)⟩
  · have h := HF.out.1
    rw [List.map_map] at h
    rw [HLN.out]
    exact h
  · have h1 := (HF.out.2.1 g hg).1
    have h2 := HF.out.2.2.2.size
    simp at h1
    omega
end Go.Proofs.YtbjbjgfjaopibaaGreatDoor
end

section
/- All of a journal, as a list of pairs. -/
namespace Go.Proofs.YtbjbjgfjaopibaaGreatDoor
open Go Go.RowKit
set_option linter.unusedSimpArgs false
set_option linter.unusedVariables false
set_option maxRecDepth 100000

theorem LstAt.from {α : Type} {K : EKind α} {e : TypeId} {w : World} {G G' : Nat} {v : Value} {X : List α} (h : LstAt K e w G v X) (hg : G' ≤ G) : LstAt K e w G' v X := by
  obtain ⟨o, h1, h2, h3⟩ := h
  exact ⟨o, h1, fun g hg' => Nat.le_trans hg (h2 g hg'), fun x hx => K.mono (h3 x hx) (fun b hb => ⟨Nat.le_trans hg hb.1, hb.2⟩)⟩
end Go.Proofs.YtbjbjgfjaopibaaGreatDoor
end

section
/- The tape's methods on a tape that the law itself made. -/
namespace Go.Proofs.YtbjbjgfjaopibaaGreatDoor
open Go Go.RowKit
set_option linter.unusedSimpArgs false
set_option maxRecDepth 100000

/-- a tape that the call made, W being the world in which the call began -/
def Own (W w : World) (p : Nat) (xs : List Int) (sy ro fu : Int) : Prop :=
  ∃ o, TapeAt w p xs sy ro fu o ∧ W.heap.size ≤ p ∧ (∀ g, o = some g → W.heap.size ≤ g) ∧ Below W.heap.size W w
section
variable {W w w' : World} {p : Nat} {xs : List Int} {sy ro fu : Int}
theorem Own.below (h : Own W w p xs sy ro fu) : Below W.heap.size W w := by obtain ⟨o, _, _, _, h⟩ := h; exact h
theorem Own.more (h : Own W w p xs sy ro fu) (hb : Below w.heap.size w w') : Own W w' p xs sy ro fu := by
  obtain ⟨o, h1, h2, h3, h4⟩ := h
  exact ⟨o, h1.keep (Keep.of_below (X := fun _ => False) hb) (fun _ _ h => h), h2, h3, h4.trans (hb.mono h4.size)⟩
theorem foot_ge {o : Option Nat} (h2 : W.heap.size ≤ p) (h3 : ∀ g, o = some g → W.heap.size ≤ g) : ∀ k, foot p o k → W.heap.size ≤ k := by
  rintro k (rfl | hk)
  · exact h2
  · exact h3 k hk
theorem own_synced (h : Own W w p xs sy ro fu) : Calls Tryz.prog 26 #[.pointer (some ⟨p, 0, none⟩)] w fun e w' => e = .returned (.int .i64 sy) ∧ w = w' := by
  obtain ⟨o, h1, h2, h3, h4⟩ := h
  exact tsynced p xs sy ro fu o w h1
theorem own_bytes (h : Own W w p xs sy ro fu) (hl : xs.length ≤ 140737488355328) :
    Calls Tryz.prog 25 #[.pointer (some ⟨p, 0, none⟩)] w fun e w' => ∃ q c, e = .returned (.slice q xs.length c) ∧ (∃ o', Row w' 5 (.slice q xs.length c) xs o' ∧ ∀ g, o' = some g → w.heap.size ≤ g) ∧ Own W w' p xs sy ro fu ∧ Below w.heap.size w w' := by
  have h' := h
  obtain ⟨o, h1, h2, h3, h4⟩ := h
  refine (tbytes p xs sy ro fu o w h1 hl).mono ?_
  rintro e w1 ⟨q, c, o', rfl, hr, ho, hb⟩
  exact ⟨q, c, rfl, ⟨o', hr, ho⟩, h'.more hb, hb⟩
theorem own_of {o : Option Nat} {ys : List Int} {sy' ro' fu' : Int} (h2 : W.heap.size ≤ p) (h3 : ∀ g, o = some g → W.heap.size ≤ g) (h4 : Below W.heap.size W w) (ht : TapeAt w' p ys sy' ro' fu' o) (hk : Keep (foot p o) w w') : Own W w' p ys sy' ro' fu' :=
  ⟨o, ht, h2, h3, h4.trans (hk.below h4.size (foot_ge h2 h3))⟩
theorem own_fuse (n : Int) (h : Own W w p xs sy ro fu) : Calls Tryz.prog 16 #[.pointer (some ⟨p, 0, none⟩), .int .i64 n] w fun e w' => e = .returned (.int .i64 (fuseE n)) ∧ Own W w' p xs sy ro (fuseN n fu) := by
  obtain ⟨o, h1, h2, h3, h4⟩ := h
  refine (tfuse p xs sy ro fu n o w h1).mono ?_
  rintro e w1 ⟨rfl, ht, hk⟩
  exact ⟨rfl, own_of h2 h3 h4 ht hk⟩
theorem own_room (n : Int) (h : Own W w p xs sy ro fu) : Calls Tryz.prog 18 #[.pointer (some ⟨p, 0, none⟩), .int .i64 n] w fun e w' => e = .returned (.int .i64 (roomE n)) ∧ Own W w' p xs sy (roomN n ro) fu := by
  obtain ⟨o, h1, h2, h3, h4⟩ := h
  refine (troom p xs sy ro fu n o w h1).mono ?_
  rintro e w1 ⟨rfl, ht, hk⟩
  exact ⟨rfl, own_of h2 h3 h4 ht hk⟩
theorem own_sync (h : Own W w p xs sy ro fu) (hf0 : -1 ≤ fu) (hf1 : fu ≤ 9223372036854775807) : Calls Tryz.prog 45 #[.pointer (some ⟨p, 0, none⟩)] w fun e w' => e = .returned (.int .i64 (burnE fu)) ∧ Own W w' p xs (syncN xs sy fu) ro (burn fu) := by
  obtain ⟨o, h1, h2, h3, h4⟩ := h
  refine (tsync p xs sy ro fu o w h1 hf0 hf1).mono ?_
  rintro e w1 ⟨rfl, ht, hk⟩
  exact ⟨rfl, own_of h2 h3 h4 ht hk⟩
theorem own_cut (n : Int) (h : Own W w p xs sy ro fu) (hl : xs.length ≤ 16777216) (hf0 : -1 ≤ fu) (hf1 : fu ≤ 9223372036854775807) :
    Calls Tryz.prog 37 #[.pointer (some ⟨p, 0, none⟩), .int .i64 n] w fun e w' => e = .returned (.int .i64 (cutE n xs.length fu)) ∧ Own W w' p (cutB xs n fu) (cutS xs sy n fu) ro (cutF xs.length n fu) := by
  obtain ⟨o, h1, h2, h3, h4⟩ := h
  refine (tcut p xs sy ro fu n o w h1 hl hf0 hf1).mono ?_
  rintro e w1 ⟨rfl, ht, hk⟩
  exact ⟨rfl, own_of h2 h3 h4 ht hk⟩
theorem own_crash (n : Int) (h : Own W w p xs sy ro fu) (hl : xs.length ≤ 16777216) (hs0 : 0 ≤ sy) (hs1 : sy ≤ xs.length) :
    Calls Tryz.prog 21 #[.pointer (some ⟨p, 0, none⟩), .int .i64 n] w fun e w' => e = .returned (.int .i64 0) ∧ Own W w' p (xs.take (crashN xs.length sy n)) (crashN xs.length sy n) ro (-1) := by
  obtain ⟨o, h1, h2, h3, h4⟩ := h
  refine (tcrash p xs sy ro fu n o w h1 hl hs0 hs1).mono ?_
  rintro e w1 ⟨rfl, ht, hk⟩
  exact ⟨rfl, own_of h2 h3 h4 ht hk⟩
theorem own_append_at {o : Option Nat} {ys : List Int} (q : Option Addr) (c : Nat) (h1 : TapeAt w p xs sy ro fu o) (h2 : W.heap.size ≤ p) (h3 : ∀ g, o = some g → W.heap.size ≤ g) (h4 : Below W.heap.size W w)
    (hy : Lib.BytesIn w q ys.length ys) (hqx : 0 < ys.length → ∀ a, q = some a → ¬ foot p o a.block)
    (hl : xs.length ≤ 16777216) (hyl : ys.length ≤ 9223372036854775807) (hr0 : 0 ≤ ro) (hr1 : ro ≤ 16777216) (hf0 : -1 ≤ fu) (hf1 : fu ≤ 9223372036854775807) :
    Calls Tryz.prog 22 #[.pointer (some ⟨p, 0, none⟩), .slice q ys.length c] w fun e w' => e = .returned (.int .i64 (appE xs.length ys.length ro fu)) ∧ Own W w' p (appB xs ys ro fu) sy ro (burn fu) := by
  refine (tappend p xs ys sy ro fu o q c w h1 hy hqx hl hyl hr0 hr1 hf0 hf1).mono ?_
  rintro e w1 ⟨rfl, ⟨o', ht, ho⟩, hk⟩
  have hs := h4.size
  refine ⟨rfl, o', ht, h2, ?_, h4.trans (hk.below hs (foot_ge h2 h3))⟩
  intro g hg
  rcases ho with rfl | ⟨g', hg', hle⟩
  · exact h3 g hg
  · rw [hg'] at hg; cases hg; omega
/-- bytes that came in -/
theorem own_append {ys : List Int} (q : Option Addr) (c : Nat) (h : Own W w p xs sy ro fu) (hy : Lib.BytesIn W q ys.length ys)
    (hl : xs.length ≤ 16777216) (hyl : ys.length ≤ 9223372036854775807) (hr0 : 0 ≤ ro) (hr1 : ro ≤ 16777216) (hf0 : -1 ≤ fu) (hf1 : fu ≤ 9223372036854775807) :
    Calls Tryz.prog 22 #[.pointer (some ⟨p, 0, none⟩), .slice q ys.length c] w fun e w' => e = .returned (.int .i64 (appE xs.length ys.length ro fu)) ∧ Own W w' p (appB xs ys ro fu) sy ro (burn fu) := by
  obtain ⟨o, h1, h2, h3, h4⟩ := h
  refine own_append_at q c h1 h2 h3 h4 (bytes_keep hy (Keep.of_below (X := fun _ => False) h4) (fun _ _ _ h => h)) (fun h0 a ha hf => ?_) hl hyl hr0 hr1 hf0 hf1
  have := foot_ge h2 h3 _ hf
  have := bytes_lt hy h0 a ha
  omega
end
theorem BytesIn.take {w : World} {q : Option Addr} {n m : Nat} {xs : List Int} (h : Lib.BytesIn w q n xs) (hm : m ≤ n) (hx : xs.length = n) : Lib.BytesIn w q (xs.take m).length (xs.take m) := fun h0 => by
  have hl : (xs.take m).length = m := by simp; omega
  rw [hl] at h0 ⊢
  obtain ⟨b, o, e, hc⟩ := h.at (by omega)
  refine ⟨b, o, e, fun i hi => ?_⟩
  rw [hc i (by omega)]
  congr 2
  simp [List.getD, hi]
end Go.Proofs.YtbjbjgfjaopibaaGreatDoor
end
