import Derived.Test.YtbjbjgfjaopibaaDoorCr17
import Derived.Shelf.Spec.SlicesInsert
section
/- slices.Insert of one pair. -/
namespace Go.Proofs.YtbjbjgfjaopibaaDoor
open Go Go.RowKit Go.Lib
set_option linter.unusedSimpArgs false
set_option linter.unusedVariables false
set_option maxRecDepth 100000

/-- copy of elements of k cells -/
theorem run_copy_k {P : Program} (w : World) (dT sT ty elem : TypeId) (k b o dLen dCap : Nat) (a : Addr) (sLen sCap : Nat) (cs : List Value)
    (hu : P.underlying dT = some (.slice elem)) (hs : (P.info? elem).map (·.size) = some k) (hn : cs.length = Nat.min sLen dLen * k)
    (hsrc : ∀ j v, cs[j]? = some v → w.cell? (a.add j) = some v) (hc : ∀ j, j < cs.length → (w.cell? ⟨b, o + j, none⟩).isSome = true) (hf : ∀ j, j < cs.length → w.frozen? ⟨b, o + j, none⟩ = false) (h1 : ∀ v ∈ cs, v.oneCell' = true) :
    (Builtin.copy_ #[dT, sT] ty #[.slice (some ⟨b, o, none⟩) dLen dCap, .slice (some a) sLen sCap]).run P w = .ok (goInt (Nat.min sLen dLen)) (w.setCells b o cs) := by
  have hl := run_loadCells_list (P := P) w a cs hsrc
  have hst := run_storeCells_cells (P := P) b o cs 0 w (by simpa using hc) (by simpa using hf) h1
  cases hq : P.info? elem with
  | none => simp [hq] at hs
  | some i =>
    have hi : i.size = k := by simpa [hq] using hs
    simp [Builtin.copy_, run_underlying hu, Builtin.lenOf, Builtin.firstCells, sizeOf, typeInfo, hq, hi, ← hn, hl, hst]
section
variable {w : World} {e : TypeId} {k : Nat} {n cap g : Nat} {cs : List Value}
/-- several cells written, exactly -/
theorem RowV.setsL : ∀ (us : List Value) (i : Nat) {w : World} {cs : List Value}, RowV w e k (.slice (some ⟨g, 0, none⟩) n cap) n cs (some g) → i + us.length ≤ n * k →
    RowV (w.setCells g i us) e k (.slice (some ⟨g, 0, none⟩) n cap) n (cs.take i ++ us ++ cs.drop (i + us.length)) (some g) ∧ Keep (fun q => q = g) w (w.setCells g i us)
  | [], i, w, cs, h, _ => by
    refine ⟨?_, Keep.refl _ _⟩
    show RowV w _ _ _ _ (cs.take i ++ [] ++ cs.drop (i + 0)) _
    rw [List.append_nil, Nat.add_zero, List.take_append_drop]
    exact h
  | u :: us, i, w, cs, h, hl => by
    rw [List.length_cons] at hl
    have hi : i < cs.length := by have := h.1; omega
    obtain ⟨h1, h3⟩ := RowV.setsL us (i + 1) (h.set i u (by omega)) (by omega)
    refine ⟨?_, ((Keep.refl _ w).set (X := fun q => q = g) (p := ⟨g, i, none⟩) (.inl rfl) u).trans h3⟩
    have e1 : (cs.set i u).take (i + 1) = cs.take i ++ [u] := by
      rw [← List.take_append_getElem (by rw [List.length_set]; exact hi), List.getElem_set_self, List.take_set_of_le (Nat.le_refl _)]
    have e2 : (cs.set i u).drop (i + 1 + us.length) = cs.drop (i + (us.length + 1)) := by
      rw [List.drop_set_of_lt (by omega)]
      congr 1
      omega
    rw [e1, e2, List.append_assoc, List.append_assoc] at h1
    rw [List.append_assoc]
    exact h1
/-- more elements, out of the spare ones -/
theorem RowV.longer (h : RowV w e k (.slice (some ⟨g, 0, none⟩) n cap) n cs (some g)) {m : Nat} (hm : n + m ≤ cap) : ∃ ex : List Value, ex.length = m * k ∧ RowV w e k (.slice (some ⟨g, 0, none⟩) (n + m) cap) (n + m) (cs ++ ex) (some g) := by
  obtain ⟨hl, ⟨h1, _⟩ | ⟨g', cap', cur, h0, h1, h2, h3, h4, h5, h6⟩⟩ := h
  · cases h1
  · cases h0; cases h1
    have hmk : (n + m) * k ≤ cap * k := Nat.mul_le_mul_right _ hm
    have e1 : (n + m) * k = n * k + m * k := Nat.add_mul _ _ _
    refine ⟨(cur.toList.drop (n * k)).take (m * k), by rw [List.length_take, List.length_drop, Array.length_toList]; omega, ?_, .inr ⟨g, cap, cur, rfl, rfl, h2, hm, h4, h5, ?_⟩⟩
    · rw [List.length_append, hl, List.length_take, List.length_drop, Array.length_toList, e1]; omega
    · rw [e1, List.take_add, h6]
/-- a row in its block -/
theorem RowV.blk (h : RowV w e k (.slice (some ⟨g, 0, none⟩) n cap) n cs (some g)) : ∃ cur, Blk w g cur e ∧ n ≤ cap ∧ cap * k ≤ cur.size ∧ cap ≤ maxLen ∧ cur.toList.take (n * k) = cs := by
  obtain ⟨hl, ⟨h1, _⟩ | ⟨g', cap', cur, h0, h1, h2, h3, h4, h5, h6⟩⟩ := h
  · cases h1
  · cases h0; cases h1
    exact ⟨cur, h2, h3, h4, h5, h6⟩
theorem Blk.shape {c : Array Value} {t : TypeId} {b : Nat} (h : Blk w b c t) : w.shape? b = some (t, c.size) := by
  unfold Blk at h; simp [World.shape?, h]
end
theorem flatP_ins (X : List PairD) (x : PairD) (at' : Nat) : (X.take at' ++ x :: X.drop at').flatMap pairCs = (X.take at').flatMap pairCs ++ (pairCs x ++ (X.drop at').flatMap pairCs) := by
  rw [List.flatMap_append, List.flatMap_cons]
theorem flatP_drop (X : List PairD) (i : Nat) : (X.drop i).flatMap pairCs = (X.flatMap pairCs).drop (i * 2) := by
  have h1 : X.flatMap pairCs = (X.take i).flatMap pairCs ++ (X.drop i).flatMap pairCs := by rw [← List.flatMap_append, List.take_append_drop]
  rcases Nat.lt_or_ge X.length i with h | h
  · rw [List.drop_eq_nil_of_le (by omega), List.drop_eq_nil_of_le (by rw [flatP_len]; omega)]; rfl
  · rw [h1, List.drop_left' (by rw [flatP_len, List.length_take, Nat.min_eq_left h])]
theorem flatP_one (X : List PairD) : ∀ u ∈ X.flatMap pairCs, u.oneCell' = true := flat_one pairK X
theorem pairSize : (Tryd.prog.info? 55).map (·.size) = some 2 := by kernel_rfl
set_option maxHeartbeats 6400000 in
/-- slices.Insert at the end -/
theorem pinsert_end (X : List PairD) (q : Option Addr) (c : Nat) (o : Option Nat) (x : PairD) (gv : Nat) (w : World) (h : RowV w 55 2 (.slice q X.length c) X.length (X.flatMap pairCs) o) (hv : Blk w gv (pairCs x).toArray 55) (hl : X.length ≤ 1000000000000) :
    Calls Tryd.prog 50 #[.slice q X.length c, .int .i64 (X.length : Int), .slice (some ⟨gv, 0, none⟩) 1 1] w fun e w' => ∃ v, e = .returned v ∧ ∃ g', RowV w' 55 2 v (X.length + 1) ((X ++ [x]).flatMap pairCs) (some g') ∧ (o = some g' ∨ w.heap.size ≤ g') ∧ Keep (fun k => o = some k) w w' := by
  obtain ⟨i1, z1, f1, f2, f3, f4, f5⟩ := info_ofJ pairInf
  obtain ⟨v', w', g', run, hR, ho, hk⟩ := rowV_append (P := Tryd.prog) 22 22 i1 z1 Tryd.underlying22 f1 f2 f3 f4 f5 (by decide) h (a := ⟨gv, 0, none⟩) (m := 1) (c := 1) (news := pairCs x) rfl (fun j u hu => by
    rw [Addr.add_lit, Nat.zero_add, hv.cell, List.getElem?_toArray]; exact hu) (pairK.one x) (by decide) (by unfold maxLen; omega) (by omega)
  rw [show X.flatMap pairCs ++ pairCs x = (X ++ [x]).flatMap pairCs from by rw [List.flatMap_append, List.flatMap_singleton]] at hR
  obtain ⟨qc, hle, hcm⟩ : ∃ qc : Unit, X.length ≤ c ∧ c ≤ 9223372036854775807 := by
    obtain ⟨p, c', e1, h1, h2, _⟩ := h.form
    cases e1
    exact ⟨(), h1, by unfold maxLen at h2; exact h2⟩
  have HF := Lib.hid (And.intro hR (And.intro ho hk))
  clear hR ho hk h hv f1 f2 f3 f4 f5
  generalize (X ++ [x]).flatMap pairCs = L at *
  generalize X.length = n at *
  by_cases hcn : c = n
  · subst hcn
    go_enter Tryd.func50, Tryd.ntmps50
    go_wp2_with (at_builtin; refine wpl_append rfl _ _ 22 rfl rfl rfl run ?_)
    go_ret
    exact ⟨v', rfl, g', HF.out⟩
  · go_enter Tryd.func50, Tryd.ntmps50
    go_wp2_with (at_builtin; refine wpl_append rfl _ _ 22 rfl rfl rfl run ?_)
    go_ret
    exact ⟨v', rfl, g', HF.out⟩
theorem overlapsNot (w : World) (gv g off lb cb : Nat) (cv cg : Array Value) (hv : Blk w gv cv 55) (hg : Blk w g cg 55) (hne : gv ≠ g) (h0 : 0 < cg.size) :
    (callFunc 67 #[.slice (some ⟨gv, 0, none⟩) 1 1, .slice (some ⟨g, off, none⟩) lb cb]).run Tryd.prog w = .ok (.value (.bool false)) w := by
  have hz : ∀ w, (Go.sizeOf 55).run Tryd.prog w = .ok 2 w := fun w => by kernel_rfl
  rw [run_callFunc_extern Tryd.func67 (by kernel_rfl) (by kernel_rfl) (by kernel_rfl) (e := Extern.SlicesOverlaps.overlaps #[22, 22] #[4]) (by kernel_rfl),
    Lib.run_overlaps_apart w 22 4 55 Tryd.underlying22 2 hz ⟨gv, 0, none⟩ ⟨g, off, none⟩ 1 1 lb cb hne 55 55 cv.size cg.size hv.shape hg.shape (by omega) (hv.free 0) (hv.free cv.size)]
  rfl
set_option maxHeartbeats 12800000 in
/-- slices.Insert where there is room -/
theorem pinsert_shift (X : List PairD) (g cap : Nat) (x : PairD) (gv : Nat) (at' : Nat) (w : World) (h : RowV w 55 2 (.slice (some ⟨g, 0, none⟩) X.length cap) X.length (X.flatMap pairCs) (some g)) (hv : Blk w gv (pairCs x).toArray 55) (hne : gv ≠ g) (hl : X.length ≤ 1000000000000) (hat : at' < X.length) (hroom : X.length + 1 ≤ cap) :
    Calls Tryd.prog 50 #[.slice (some ⟨g, 0, none⟩) X.length cap, .int .i64 (at' : Int), .slice (some ⟨gv, 0, none⟩) 1 1] w fun e w' => e = .returned (.slice (some ⟨g, 0, none⟩) (X.length + 1) cap) ∧ RowV w' 55 2 (.slice (some ⟨g, 0, none⟩) (X.length + 1) cap) (X.length + 1) ((X.take at' ++ x :: X.drop at').flatMap pairCs) (some g) ∧ Keep (fun k => k = g) w w' := by
  obtain ⟨ex, hex, hR⟩ := h.longer (m := 1) hroom
  obtain ⟨cur, hB, _, hcs, hcm, _⟩ := hR.blk
  have hsz0 : 0 < cur.size := by omega
  have hov : ∀ off lb cb, (callFunc 67 #[.slice (some ⟨gv, 0, none⟩) 1 1, .slice (some ⟨g, off, none⟩) lb cb]).run Tryd.prog w = .ok (.value (.bool false)) w := fun off lb cb => overlapsNot w gv g off lb cb _ cur hv hB hne hsz0
  have hcm' : cap ≤ 9223372036854775807 := by unfold maxLen at hcm; exact hcm
  have HH := Lib.hid (And.intro hR (And.intro hB (And.intro hcs hex)))
  have HV := Lib.hid hv
  clear hR hB hcs hcm h hv hex
  obtain ⟨n, hn⟩ : ∃ n, n = X.length := ⟨_, rfl⟩
  rw [← hn] at hl hat hroom HH ⊢
  have HN := Lib.hid hn
  clear hn
  generalize hL : (X.take at' ++ x :: X.drop at').flatMap pairCs = L at *
  have HL := Lib.hid hL
  clear hL
  have hne1 : ((at' : Int) == (n : Int)) = false := beq_false_of_ne (by omega)
  obtain ⟨D, hD⟩ : ∃ D, D = (X.flatMap pairCs).drop (at' * 2) := ⟨_, rfl⟩
  have hDl : D.length = (n - at') * 2 := by rw [hD, List.length_drop, flatP_len, ← HN.out]; omega
  have hcl : (X.flatMap pairCs).length = n * 2 := by rw [flatP_len, ← HN.out]
  have hmin1 : Nat.min (n + 1 - at') (n - at') = n - at' := by show min (n + 1 - at') (n - at') = n - at'; omega
  have hRd : RowV w.drew 55 2 (.slice (some ⟨g, 0, none⟩) (n + 1) cap) (n + 1) (X.flatMap pairCs ++ ex) (some g) := HH.out.1.keep (X := fun _ => False) ((Keep.refl _ w).drew) (fun _ _ h => h)
  have hcell : ∀ j, j < (n + 1) * 2 → w.drew.cell? ⟨g, j, none⟩ = (X.flatMap pairCs ++ ex)[j]? := fun j hj => by
    obtain ⟨g', cap', ho, ev, _, _, _, hc, _⟩ := hRd.mem (by omega)
    cases ev
    exact hc j hj
  have hfree : ∀ j, w.drew.frozen? ⟨g, j, none⟩ = false := fun j => HH.out.2.1.free j
  have hcl2 : (X.flatMap pairCs ++ ex).length = (n + 1) * 2 := hRd.1
  obtain ⟨W1, hW1⟩ : ∃ W1, W1 = w.drew.setCells g ((at' + 1) * 2) D := ⟨_, rfl⟩
  have hcp1 : ∀ ty dc sc, (Builtin.copy_ #[22, 22] ty #[.slice (some ⟨g, (at' + 1) * 2, none⟩) (n - at') dc, .slice (some ⟨g, at' * 2, none⟩) (n + 1 - at') sc]).run Tryd.prog w.drew = .ok (goInt (Nat.min (n + 1 - at') (n - at'))) W1 := fun ty dc sc => by
    rw [hW1]
    exact run_copy_k w.drew _ _ ty 55 2 g ((at' + 1) * 2) (n - at') dc ⟨g, at' * 2, none⟩ (n + 1 - at') sc D Tryd.underlying22 pairSize (by rw [hmin1, hDl]) (fun j v hj => by
        have hjl : j < D.length := (List.getElem?_eq_some_iff.1 hj).1
        rw [Addr.add_lit, hcell (at' * 2 + j) (by omega), List.getElem?_append_left (by rw [hcl]; omega)]
        rw [hD, List.getElem?_drop] at hj
        exact hj) (fun j hj => by
        rw [hcell ((at' + 1) * 2 + j) (by omega), List.getElem?_eq_getElem (by rw [hcl2]; omega)]; rfl) (fun j hj => hfree _) (fun v hv => flatP_one X v (List.mem_of_mem_drop (hD ▸ hv)))
  obtain ⟨hR1, hk1⟩ := hRd.setsL D ((at' + 1) * 2) (by omega)
  rw [← hW1] at hR1 hk1
  have hB1 : ∀ j, j < (n + 1) * 2 → (W1.cell? ⟨g, j, none⟩).isSome = true := fun j hj => by
    obtain ⟨g', cap', ho, ev, _, _, _, hc, _⟩ := hR1.mem (by omega)
    cases ev
    rw [hc j hj, List.getElem?_eq_getElem (by rw [hR1.1]; exact hj)]; rfl
  have hF1 : ∀ j, W1.frozen? ⟨g, j, none⟩ = false := fun j => by
    obtain ⟨cur1, hb1, _⟩ := hR1.blk
    exact hb1.free j
  have hv1 : Blk W1 gv (pairCs x).toArray 55 := hk1.blk (((Keep.refl (fun _ => False) w).drew).blk HV.out (fun h => h)) hne
  have hcp2 : ∀ ty dc, (Builtin.copy_ #[22, 22] ty #[.slice (some ⟨g, at' * 2, none⟩) (n + 1 - at') dc, .slice (some ⟨gv, 0, none⟩) 1 1]).run Tryd.prog W1 = .ok (goInt (Nat.min 1 (n + 1 - at'))) (W1.setCells g (at' * 2) (pairCs x)) := fun ty dc =>
    run_copy_k W1 _ _ ty 55 2 g (at' * 2) (n + 1 - at') dc ⟨gv, 0, none⟩ 1 1 (pairCs x) Tryd.underlying22 pairSize (by rw [show Nat.min 1 (n + 1 - at') = 1 from Nat.min_eq_left (by omega)]; rfl) (fun j v hj => by
        rw [Addr.add_lit, Nat.zero_add, hv1.cell, List.getElem?_toArray]; exact hj) (fun j hj => hB1 _ (by have h2 : j < 2 := hj; omega)) (fun j hj => hF1 _) (pairK.one x)
  obtain ⟨hR2, hk2⟩ := hR1.setsL (pairCs x) (at' * 2) (by show at' * 2 + 2 ≤ (n + 1) * 2; omega)
  have hLe : L = ((X.flatMap pairCs ++ ex).take ((at' + 1) * 2) ++ D ++ (X.flatMap pairCs ++ ex).drop ((at' + 1) * 2 + D.length)).take (at' * 2) ++ pairCs x ++ ((X.flatMap pairCs ++ ex).take ((at' + 1) * 2) ++ D ++ (X.flatMap pairCs ++ ex).drop ((at' + 1) * 2 + D.length)).drop (at' * 2 + (pairCs x).length) := by
    have l1 : ((X.flatMap pairCs ++ ex).take ((at' + 1) * 2)).length = (at' + 1) * 2 := by rw [List.length_take, hcl2]; omega
    rw [← HL.out, flatP_ins, ← flatP_take, flatP_drop, ← hD]
    rw [show (X.flatMap pairCs ++ ex).drop ((at' + 1) * 2 + D.length) = [] from List.drop_eq_nil_of_le (by rw [hcl2]; omega), List.append_nil]
    rw [List.take_append_of_le_length (by rw [l1]; omega), List.take_take, Nat.min_eq_left (by omega), List.take_append_of_le_length (by rw [hcl]; omega), List.append_assoc]
    congr 2
    rw [show at' * 2 + (pairCs x).length = (at' + 1) * 2 from by show at' * 2 + 2 = _; omega, List.drop_left' l1]
  rw [← hLe] at hR2
  have HF := Lib.hid (And.intro hR2 ((((Keep.refl (fun q => q = g) w).drew).trans hk1).trans hk2))
  clear hLe hR2 hk2 hR1 hk1 hB1 hF1 hv1 hcell hfree hcl2 hRd hcl hDl hW1 hD hmin1
  go_enter Tryd.func50, Tryd.ntmps50
  have mixed : Tryd.prog.follows Departure.mixedOrders = true := by kernel_rfl
  have hw1 : IntKind.i64.wrap ((at' : Int) + 1) = (at' : Int) + 1 := by rw [IntKind.wrap_i64]; omega
  have hb1 : (0 : Int) ≤ (at' : Int) + 1 := by omega
  have htn : ((at' : Int) + 1).toNat = at' + 1 := by omega
  have hb2 : ¬ (cap = at' + 1) := by omega
  have hb3 : (at' : Int) ≤ (n : Int) + 1 := by omega
  have hb4 : ¬ (cap = at') := by omega
  have hin : at' ≤ n := by omega
  go_wp2_with (simp only [hov])
  go_region_law_o (refine step_copy_runI rfl _ _ 22 22 rfl _ _ (by simp [Act.eval, Act.put]) (by simp [Act.eval, Act.put]) (hcp1 _ _ _) ?_)
  go_wp2_with (at_builtin; refine wpList_copy_runI _ rfl _ _ 22 22 rfl _ _ rfl rfl (hcp2 _ _) ?_)
  go_ret
  exact ⟨rfl, HF.out⟩
set_option maxHeartbeats 12800000 in
/-- slices.Insert where there is no room -/
theorem pinsert_grow (X : List PairD) (g cap : Nat) (x : PairD) (gv : Nat) (at' : Nat) (w : World) (h : RowV w 55 2 (.slice (some ⟨g, 0, none⟩) X.length cap) X.length (X.flatMap pairCs) (some g)) (hv : Blk w gv (pairCs x).toArray 55) (hl : X.length ≤ 1000000000000) (hat : at' < X.length) (hroom : cap < X.length + 1) :
    Calls Tryd.prog 50 #[.slice (some ⟨g, 0, none⟩) X.length cap, .int .i64 (at' : Int), .slice (some ⟨gv, 0, none⟩) 1 1] w fun e w' => ∃ G', e = .returned (.slice (some ⟨w.heap.size, 0, none⟩) (X.length + 1) G') ∧ RowV w' 55 2 (.slice (some ⟨w.heap.size, 0, none⟩) (X.length + 1) G') (X.length + 1) ((X.take at' ++ x :: X.drop at').flatMap pairCs) (some w.heap.size) ∧ Keep (fun _ => False) w w' := by
  obtain ⟨cur, hB, hnc, _, hcm, _⟩ := h.blk
  have hcm' : cap ≤ 9223372036854775807 := by unfold maxLen at hcm; exact hcm
  obtain ⟨i1, z1, f1, f2, f3, f4, f5⟩ := info_ofJ pairInf
  have HH := Lib.hid h
  have HV := Lib.hid hv
  have hgl := hB.lt
  have hgvl := hv.lt
  obtain ⟨n, hn⟩ : ∃ n, n = X.length := ⟨_, rfl⟩
  rw [← hn] at hl hat hroom HH hnc ⊢
  have HN := Lib.hid hn
  have hcell : ∀ j, j < n * 2 → w.cell? ⟨g, j, none⟩ = (X.flatMap pairCs)[j]? := fun j hj => by
    obtain ⟨g', cap', ho, ev, _, _, _, hc, _⟩ := HH.out.mem (by omega)
    cases ev
    exact hc j hj
  clear hn h hv
  generalize hL : (X.take at' ++ x :: X.drop at').flatMap pairCs = L at *
  have HL := Lib.hid hL
  clear hL
  have hcl : (X.flatMap pairCs).length = n * 2 := by rw [flatP_len, ← HN.out]
  obtain ⟨T, hT⟩ : ∃ T, T = (X.flatMap pairCs).take (at' * 2) := ⟨_, rfl⟩
  have hTl : T.length = at' * 2 := by rw [hT, List.length_take, hcl]; omega
  have hold : (Builtin.firstCells i1.size at' (.slice (some ⟨g, 0, none⟩) at' cap)).run Tryd.prog w.drew = .ok T.toArray w.drew := by
    rw [f3]
    exact run_firstCells_some w.drew 2 at' ⟨g, 0, none⟩ at' cap T (by rw [hTl]) (fun j v hj => by
      have hjl : j < T.length := (List.getElem?_eq_some_iff.1 hj).1
      rw [Addr.add_lit, Nat.zero_add]
      show w.cell? ⟨g, j, none⟩ = some v
      rw [hcell j (by omega)]
      rw [hT, List.getElem?_take_of_lt (by omega)] at hj
      exact hj)
  obtain ⟨G, hG⟩ : ∃ G, G = grownCap w (n + 1) cap 55 := ⟨_, rfl⟩
  obtain ⟨ROW, hROW⟩ : ∃ ROW : Array Value, ROW = T.toArray ++ Builtin.zeroCells z1.cells (n + 1 - at') ++ Builtin.zeroCells z1.cells (G - (n + 1)) := ⟨_, rfl⟩
  have hik : at' + (n + 1 - at') = n + 1 := by omega
  have hrz : ∀ ty, (Builtin.append_ #[22, 3] ty #[.slice (some ⟨g, 0, none⟩) at' cap, .int .i64 ((n : Int) + 1 - (at' : Int))]).run Tryd.prog w = .ok (.slice (some ⟨w.heap.size, 0, none⟩) (n + 1) G) (w.drew.alloc (.cells ROW 55)) := fun ty => by
    have h := Lib.run_append_grow_zeros w 22 3 ty 55 i1 z1 .i64 .i64 Tryd.underlying22 Tryd.underlying3 f1 f2 (some ⟨g, 0, none⟩) at' cap T hold (n + 1 - at') (by omega) (by rw [f3]; decide) (by omega) (by omega) (by rw [f4]; omega) (by rw [f4, hik]; exact growslice_fits hroom (by omega))
    rw [hik, ← hG, ← hROW] at h
    rw [show (n : Int) + 1 - (at' : Int) = ((n + 1 - at' : Nat) : Int) from by omega]
    exact h
  have hGn : n + 1 ≤ G := by rw [hG]; exact grownCap_ge w _ _ _
  have hGm : G ≤ maxLen := by rw [hG]; exact grownCap_le_maxLen w (n + 1) cap _ (by unfold maxLen; omega)
  have hG63 : G ≤ 9223372036854775807 := by unfold maxLen at hGm; exact hGm
  have hz2 : z1.cells.size = 2 := f5
  have hRl : ROW.size = G * 2 := by
    rw [hROW]
    simp only [Array.size_append, List.size_toArray, hTl, Builtin.zeroCells, Array.size_map, Array.size_range, hz2]
    omega
  obtain ⟨W1, hW1⟩ : ∃ W1, W1 = w.drew.alloc (.cells ROW 55) := ⟨_, rfl⟩
  have hk01 : Keep (fun _ => False) w W1 := by rw [hW1]; exact ((Keep.refl _ w).drew).alloc _
  have hBN : Blk W1 w.heap.size ROW 55 := by rw [hW1]; exact Blk.new w.drew ROW 55
  obtain ⟨Zs, hZl, hR1⟩ : ∃ Zs : List Value, Zs.length = (n + 1 - at') * 2 ∧ RowV W1 55 2 (.slice (some ⟨w.heap.size, 0, none⟩) (n + 1) G) (n + 1) (T ++ Zs) (some w.heap.size) := by
    refine ⟨(Builtin.zeroCells z1.cells (n + 1 - at')).toList, by simp [Builtin.zeroCells, hz2], by rw [List.length_append, hTl]; simp [Builtin.zeroCells, hz2]; omega, .inr ⟨w.heap.size, G, ROW, rfl, rfl, hBN, hGn, by rw [hRl]; exact Nat.le_refl _, hGm, ?_⟩⟩
    rw [hROW, Array.toList_append, Array.toList_append, List.toList_toArray]
    rw [List.take_append_of_le_length (by rw [List.length_append, hTl]; simp [Builtin.zeroCells, hz2]; omega)]
    exact List.take_of_length_le (by rw [List.length_append, hTl]; simp [Builtin.zeroCells, hz2]; omega)
  rw [← hW1] at hrz
  obtain ⟨D, hD⟩ : ∃ D, D = (X.flatMap pairCs).drop (at' * 2) := ⟨_, rfl⟩
  have hDl : D.length = (n - at') * 2 := by rw [hD, List.length_drop, hcl]; omega
  have isS : ∀ {Wx : World} {cs : List Value}, RowV Wx 55 2 (.slice (some ⟨w.heap.size, 0, none⟩) (n + 1) G) (n + 1) cs (some w.heap.size) → (∀ j, j < (n + 1) * 2 → (Wx.cell? ⟨w.heap.size, j, none⟩).isSome = true) ∧ ∀ j, Wx.frozen? ⟨w.heap.size, j, none⟩ = false := fun hR => by
    refine ⟨fun j hj => ?_, fun j => ?_⟩
    · obtain ⟨g', cap', ho, ev, _, _, _, hc, _⟩ := hR.mem (by omega)
      cases ev
      rw [hc j hj, List.getElem?_eq_getElem (by rw [hR.1]; exact hj)]; rfl
    · obtain ⟨cur1, hb1, _⟩ := hR.blk
      exact hb1.free j
  have hv1 : Blk W1 gv (pairCs x).toArray 55 := hk01.blk HV.out (fun h => h)
  have hcp1 : ∀ ty dc, (Builtin.copy_ #[22, 22] ty #[.slice (some ⟨w.heap.size, at' * 2, none⟩) (n + 1 - at') dc, .slice (some ⟨gv, 0, none⟩) 1 1]).run Tryd.prog W1 = .ok (goInt (Nat.min 1 (n + 1 - at'))) (W1.setCells w.heap.size (at' * 2) (pairCs x)) := fun ty dc =>
    run_copy_k W1 _ _ ty 55 2 w.heap.size (at' * 2) (n + 1 - at') dc ⟨gv, 0, none⟩ 1 1 (pairCs x) Tryd.underlying22 pairSize (by rw [show Nat.min 1 (n + 1 - at') = 1 from Nat.min_eq_left (by omega)]; rfl) (fun j v hj => by
        rw [Addr.add_lit, Nat.zero_add, hv1.cell, List.getElem?_toArray]; exact hj) (fun j hj => (isS hR1).1 _ (by have h2 : j < 2 := hj; omega)) (fun j hj => (isS hR1).2 _) (pairK.one x)
  obtain ⟨hR2, hk2⟩ := hR1.setsL (pairCs x) (at' * 2) (by show at' * 2 + 2 ≤ (n + 1) * 2; omega)
  obtain ⟨W2, hW2⟩ : ∃ W2, W2 = W1.setCells w.heap.size (at' * 2) (pairCs x) := ⟨_, rfl⟩
  rw [← hW2] at hcp1 hR2 hk2
  have hR2d : RowV W2.drew 55 2 (.slice (some ⟨w.heap.size, 0, none⟩) (n + 1) G) (n + 1) _ (some w.heap.size) := hR2.keep (X := fun _ => False) ((Keep.refl _ W2).drew) (fun _ _ h => h)
  have hg2 : ∀ j, j < n * 2 → W2.drew.cell? ⟨g, j, none⟩ = (X.flatMap pairCs)[j]? := fun j hj => by
    have h1 : W1.cell? ⟨g, j, none⟩ = w.cell? ⟨g, j, none⟩ := hk01.cell (p := ⟨g, j, none⟩) hgl (fun h => h)
    have h2 : W2.cell? ⟨g, j, none⟩ = W1.cell? ⟨g, j, none⟩ := hk2.cell (p := ⟨g, j, none⟩) (Nat.lt_of_lt_of_le hgl hk01.size) (by show ¬ g = w.heap.size; omega)
    show W2.cell? ⟨g, j, none⟩ = _
    rw [h2, h1, hcell j hj]
  have hcp2 : ∀ ty dc sc, (Builtin.copy_ #[22, 22] ty #[.slice (some ⟨w.heap.size, (at' + 1) * 2, none⟩) (n - at') dc, .slice (some ⟨g, at' * 2, none⟩) (n - at') sc]).run Tryd.prog W2.drew = .ok (goInt (Nat.min (n - at') (n - at'))) (W2.drew.setCells w.heap.size ((at' + 1) * 2) D) := fun ty dc sc =>
    run_copy_k W2.drew _ _ ty 55 2 w.heap.size ((at' + 1) * 2) (n - at') dc ⟨g, at' * 2, none⟩ (n - at') sc D Tryd.underlying22 pairSize (by rw [show Nat.min (n - at') (n - at') = n - at' from Nat.min_self _, hDl]) (fun j v hj => by
        have hjl : j < D.length := (List.getElem?_eq_some_iff.1 hj).1
        rw [Addr.add_lit, hg2 (at' * 2 + j) (by omega)]
        rw [hD, List.getElem?_drop] at hj
        exact hj) (fun j hj => (isS hR2d).1 _ (by omega)) (fun j hj => (isS hR2d).2 _) (fun v hv => flatP_one X v (List.mem_of_mem_drop (hD ▸ hv)))
  obtain ⟨hR3, hk3⟩ := hR2d.setsL D ((at' + 1) * 2) (by omega)
  have hLe : L = ((T ++ Zs).take (at' * 2) ++ pairCs x ++ (T ++ Zs).drop (at' * 2 + (pairCs x).length)).take ((at' + 1) * 2) ++ D ++ ((T ++ Zs).take (at' * 2) ++ pairCs x ++ (T ++ Zs).drop (at' * 2 + (pairCs x).length)).drop ((at' + 1) * 2 + D.length) := by
    have l1 : ((T ++ Zs).take (at' * 2) ++ pairCs x).length = (at' + 1) * 2 := by rw [List.length_append, List.length_take, List.length_append, hTl, hZl]; show min _ _ + 2 = _; omega
    have l2 : ((T ++ Zs).take (at' * 2) ++ pairCs x ++ (T ++ Zs).drop (at' * 2 + (pairCs x).length)).length = (n + 1) * 2 := by rw [List.length_append, l1, List.length_drop, List.length_append, hTl, hZl]; show _ + (_ - (_ + 2)) = _; omega
    rw [show ((T ++ Zs).take (at' * 2) ++ pairCs x ++ (T ++ Zs).drop (at' * 2 + (pairCs x).length)).drop ((at' + 1) * 2 + D.length) = [] from List.drop_eq_nil_of_le (by rw [l2]; omega), List.append_nil]
    rw [List.take_left' l1, List.take_left' hTl, ← HL.out, flatP_ins, ← flatP_take, flatP_drop, ← hD, ← hT, List.append_assoc]
  rw [← hLe] at hR3
  have hkF : Keep (fun _ => False) w (W2.drew.setCells w.heap.size ((at' + 1) * 2) D) := ((hk01.trans' hk2 (fun k hk => .inr (by omega))).drew).trans' hk3 (fun k hk => .inr (by omega))
  have HF := Lib.hid (And.intro hR3 hkF)
  clear hLe hR3 hkF hk3 hk2 hk01 hR2 hR2d hR1 hg2 hv1 isS hD hDl hW2 hW1 hBN hRl hROW hZl hold hT hTl hcl hcell f1 f2 f3 f4 f5 hz2 hB hG
  have mixed : Tryd.prog.follows Departure.mixedOrders = true := by kernel_rfl
  have hne1 : ((at' : Int) == (n : Int)) = false := beq_false_of_ne (by omega)
  have hw1 : IntKind.i64.wrap ((at' : Int) + 1) = (at' : Int) + 1 := by rw [IntKind.wrap_i64]; omega
  have hb1 : (0 : Int) ≤ (at' : Int) + 1 := by omega
  have htn : ((at' : Int) + 1).toNat = at' + 1 := by omega
  have hgt : (cap : Int) < (n : Int) + 1 := by omega
  have hGi : ¬ (G = at') := by omega
  have hGim : ¬ (G = at' + 1) := by omega
  have hci : ¬ (cap = at') := by omega
  have hin : at' ≤ n := by omega
  go_enter Tryd.func50, Tryd.ntmps50
  go_wp2_with (first
    | (at_builtin; refine Lib.wpList_append_run _ rfl _ _ 22 3 rfl (.slice (some ⟨g, 0, none⟩) at' cap) (.int .i64 ((n : Int) + 1 - (at' : Int))) rfl rfl _ _ (hrz _) ?_)
    | (at_builtin; refine wpList_copy_runI _ rfl _ _ 22 22 rfl (.slice (some ⟨w.heap.size, at' * 2, none⟩) (n + 1 - at') (G - at')) (.slice (some ⟨gv, 0, none⟩) 1 1) rfl rfl (hcp1 _ _) ?_))
  go_region_law_o (refine step_copy_runI rfl _ _ 22 22 rfl (.slice (some ⟨w.heap.size, (at' + 1) * 2, none⟩) (n - at') (G - (at' + 1))) (.slice (some ⟨g, at' * 2, none⟩) (n - at') (cap - at')) (by simp [Act.eval, Act.put]) (by simp [Act.eval, Act.put]) (hcp2 3 (G - (at' + 1)) (cap - at')) ?_)
  go_wp2
  go_ret
  exact ⟨G, rfl, HF.out⟩
end Go.Proofs.YtbjbjgfjaopibaaDoor
end

section
/- The law's 'after': Clone, without, Insert joined. -/
namespace Go.Proofs.YtbjbjgfjaopibaaDoor
open Go Go.RowKit
set_option linter.unusedSimpArgs false
set_option linter.unusedVariables false
set_option maxRecDepth 100000

/-- slices.Insert of one pair, anywhere -/
theorem pinsert (X : List PairD) (q : Option Addr) (c : Nat) (o : Option Nat) (x : PairD) (gv : Nat) (at' : Nat) (w : World) (h : RowV w 55 2 (.slice q X.length c) X.length (X.flatMap pairCs) o) (hv : Blk w gv (pairCs x).toArray 55) (hne : o ≠ some gv) (hl : X.length ≤ 1000000000000) (hat : at' ≤ X.length) :
    Calls Tryd.prog 50 #[.slice q X.length c, .int .i64 (at' : Int), .slice (some ⟨gv, 0, none⟩) 1 1] w fun e w' => ∃ v, e = .returned v ∧ ∃ g', RowV w' 55 2 v (X.length + 1) ((X.take at' ++ x :: X.drop at').flatMap pairCs) (some g') ∧ (o = some g' ∨ w.heap.size ≤ g') ∧ Keep (fun k => o = some k) w w' := by
  by_cases he : at' = X.length
  · subst he
    rw [List.take_length, List.drop_length]
    exact pinsert_end X q c o x gv w h hv hl
  · obtain ⟨g, cap, rfl, e1, _, _, _, _, _⟩ := h.mem (by omega)
    cases e1
    have hgne : gv ≠ g := fun e => hne (by rw [e])
    by_cases hr : X.length + 1 ≤ c
    · refine (pinsert_shift X g c x gv at' w h hv hgne hl (by omega) hr).mono ?_
      rintro e w' ⟨rfl, hR, hk⟩
      exact ⟨_, rfl, g, hR, .inl rfl, hk.mono fun k hk' => by rw [hk']⟩
    · refine (pinsert_grow X g c x gv at' w h hv hl (by omega) (by omega)).mono ?_
      rintro e w' ⟨G', rfl, hR, hk⟩
      exact ⟨_, rfl, _, hR, .inr (Nat.le_refl _), hk.mono fun k hk' => hk'.elim⟩
set_option maxHeartbeats 3200000 in
/-- slices.Clone of pairs -/
theorem pcloneP (X : List PairD) (q : Option Addr) (c : Nat) (o : Option Nat) (w : World) (h : RowV w 55 2 (.slice q X.length c) X.length (X.flatMap pairCs) o) (hq : X = [] → q = none) (hl : X.length ≤ 1000000000000) :
    Calls Tryd.prog 46 #[.slice q X.length c] w fun e w' => ∃ v o', e = .returned v ∧ RowV w' 55 2 v X.length (X.flatMap pairCs) o' ∧ (∀ g, o' = some g → w.heap.size ≤ g) ∧ Below w.heap.size w w' := by
  rcases X with _ | ⟨x0, X'⟩
  · obtain rfl := hq rfl
    obtain rfl : c = 0 := by
      obtain ⟨p, c', e1, _, _, h1 | ⟨g, _, h1, _⟩⟩ := h.form
      · cases e1; exact h1.2.2.1
      · cases e1; cases h1
    clear h hq
    show Calls Tryd.prog _ #[.slice none 0 0] w _
    have heq := Lib.run_eql_slice_nil (P := Tryd.prog) w 22 55 none 0 0 0 0 Tryd.underlying22
    go_enter Tryd.func46, Tryd.ntmps46
    go_wp2
    go_ret
    exact ⟨_, none, rfl, RowV.nil _ _ _, fun g hg => (by cases hg), Below.refl _ _⟩
  · have hpos : 0 < (x0 :: X').length := Nat.succ_pos _
    generalize hXX : x0 :: X' = X at *
    obtain ⟨g, cap, rfl, e1, _, _, hgl, hc, _⟩ := h.mem hpos
    cases e1
    obtain ⟨i1, z1, f1, f2, f3, f4, f5⟩ := info_ofJ pairInf
    have b0 := Blk.new w #[] 55
    have k0 := (Below.refl w.heap.size w).alloc (Nat.le_refl _) (.cells #[] 55)
    have R0 : RowV (w.alloc (.cells #[] 55)) 55 2 (.slice (some ⟨w.heap.size, 0, none⟩) 0 0) 0 [] (some w.heap.size) := ⟨rfl, .inr ⟨w.heap.size, 0, #[], rfl, rfl, b0, Nat.le_refl _, Nat.le_refl _, Nat.zero_le _, rfl⟩⟩
    obtain ⟨v', w', g', run, hR, ho, hk⟩ := rowV_append (P := Tryd.prog) 22 22 i1 z1 Tryd.underlying22 f1 f2 f3 f4 f5 (by decide) R0 (a := ⟨g, 0, none⟩) (m := X.length) (c := c) (news := X.flatMap pairCs) (flatP_len X) (fun j u hu => by
      have hj : j < X.length * 2 := by rw [← flatP_len]; exact (List.getElem?_eq_some_iff.1 hu).1
      rw [Addr.add_lit, Nat.zero_add]
      exact (((Keep.refl (fun _ => False) w).alloc _).cell (p := ⟨g, j, none⟩) hgl (fun h => h)).trans ((hc j hj).trans hu)) (flatP_one X) hpos (by unfold maxLen; omega) (by omega)
    rw [Nat.zero_add, List.nil_append] at hR
    have HF := Lib.hid (And.intro hR (And.intro (show ∀ g, some g' = some g → w.heap.size ≤ g from fun g hg => by
      cases hg
      rcases ho with h | h
      · cases h; exact Nat.le_refl _
      · have h1 : (w.alloc (.cells #[] 55)).heap.size = w.heap.size + 1 := by simp
        omega) (k0.trans (hk.below (by simp) (fun k hk' => by cases hk'; exact Nat.le_refl _)))))
    clear hR ho hk R0 b0 k0 h hc f1 f2 f3 f4 f5 hq hXX
    generalize X.flatMap pairCs = L at *
    generalize X.length = n at *
    have hnn : ¬ (n = 0) := by omega
    have heq := Lib.run_eql_slice_nil (P := Tryd.prog) w 22 55 (some ⟨g, 0, none⟩) n c 0 0 Tryd.underlying22
    go_enter Tryd.func46, Tryd.ntmps46
    go_wp2_with (at_builtin; refine wpl_append rfl _ _ 22 rfl rfl rfl run ?_)
    go_ret
    exact ⟨v', some g', rfl, HF.out⟩
/-- the list that 'after' works on, in its variable -/
def OutAt (w : World) (ob : Nat) (X : List PairD) (o : Option Nat) : Prop := ∃ v, Blk w ob #[v] 22 ∧ RowV w 55 2 v X.length (X.flatMap pairCs) o ∧ o ≠ some ob
theorem OutAt.keep {w w' : World} {ob : Nat} {X : List PairD} {o : Option Nat} {Y : Nat → Prop} (h : OutAt w ob X o) (hk : Keep Y w w') (hb : ¬ Y ob) (ho : ∀ g, o = some g → ¬ Y g) : OutAt w' ob X o := by
  obtain ⟨v, h1, h2, h3⟩ := h
  exact ⟨v, hk.blk h1 hb, h2.keep hk ho, h3⟩
theorem OutAt.below {w w' : World} {ob : Nat} {X : List PairD} {o : Option Nat} (h : OutAt w ob X o) (hk : Below w.heap.size w w') : OutAt w' ob X o := h.keep (Keep.of_below (X := fun _ => False) hk) (fun h => h) (fun _ _ h => h)
/-- slices.DeleteFunc of pairs, whatever goes -/
theorem pdelAny (X : List PairD) (q : Option Addr) (c : Nat) (o : Option Nat) (g : Nat) (key : ByteArray) (w : World) (h : RowV w 55 2 (.slice q X.length c) X.length (X.flatMap pairCs) o) (hl : X.length ≤ 1000000000000) (hg : w.cell? ⟨g, 0, none⟩ = some (.string key)) (hgo : o ≠ some g) :
    Calls Tryd.prog 48 #[.slice q X.length c, .func (.func 49) #[] #[.pointer (some ⟨g, 0, none⟩)]] w fun e w' => ∃ v, e = .returned v ∧ RowV w' 55 2 v (X.filter (fun s => !keyIs key s)).length ((X.filter (fun s => !keyIs key s)).flatMap pairCs) o ∧ Keep (fun k => o = some k) w w' := by
  rcases hfi : X.findIdx? (keyIs key) with _ | a
  · have hall := List.findIdx?_eq_none_iff.1 hfi
    have hself : X.filter (fun s => !keyIs key s) = X := List.filter_eq_self.2 fun x hx => by rw [hall x hx]; rfl
    rw [hself]
    have hpa : PairsAt w q X := fun i hi => by
      obtain ⟨g', cap, rfl, e1, _, _, _, _, _⟩ := h.mem (by omega)
      cases e1
      exact h.pairs i hi
    have PI := pindexP X q c g key w hpa (by omega) hg
    rw [show firstP (keyIs key) X = -1 from by unfold firstP; rw [hfi]] at PI
    have PI := Lib.hid PI
    have HH := Lib.hid h
    clear h hpa hself hall hfi
    generalize X.flatMap pairCs = L at *
    generalize X.length = n at *
    go_enter Tryd.func48, Tryd.ntmps48
    go_wp2_with fail
    refine PI.out.mono ?_
    rintro e w' ⟨rfl, hb⟩
    have HB := Lib.hid hb
    clear hb
    go_wp2
    go_ret
    exact ⟨_, rfl, HH.out.keep (Keep.of_below (X := fun _ => False) HB.out) (fun _ _ h => h), Keep.of_below HB.out⟩
  · have hpos : 0 < X.length := by have := (List.findIdx?_eq_some_iff_getElem.1 hfi).1; omega
    obtain ⟨gB, cap, rfl, e1, _, _, _, _, _⟩ := h.mem hpos
    cases e1
    refine (pdeleteP X gB c g key w h hl hg (fun e => hgo (by rw [e])) a hfi).mono ?_
    rintro e w' ⟨rfl, hR, hk⟩
    exact ⟨_, rfl, hR, hk.mono fun k hk' => by rw [hk']⟩
set_option maxHeartbeats 3200000 in
/-- without -/
theorem pwithout (X : List PairD) (ob : Nat) (o : Option Nat) (key : ByteArray) (w : World) (h : OutAt w ob X o) (hl : X.length ≤ 1000000000000) :
    Calls Tryd.prog 47 #[.string key, .pointer (some ⟨ob, 0, none⟩)] w fun e w' => e = .returned (.tuple #[]) ∧ OutAt w' ob (X.filter (fun s => !keyIs key s)) o ∧ Keep (fun k => k = ob ∨ o = some k) w w' := by
  have k0 := (Below.refl w.heap.size w).alloc (Nat.le_refl _) (.cells #[.string key] 9)
  have b0 := Blk.new w #[.string key] 9
  have h0 := h.below k0
  have hgo : o ≠ some w.heap.size := fun e => by obtain ⟨v, _, h2, _⟩ := h; have := h2.lt _ e; omega
  obtain ⟨v, hB, hR, hob⟩ := h0
  obtain ⟨q, c, rfl, _⟩ := hR.form
  have PD := Lib.hid (pdelAny X q c o w.heap.size key _ hR hl (b0.cell 0) hgo)
  have HB := Lib.hid (And.intro hB (And.intro hob k0))
  have cB := hB.cell 0
  clear hB hR hob k0 b0 h
  generalize hF : X.filter (fun s => !keyIs key s) = F at *
  generalize X.length = n at *
  generalize hm : F.length = m at *
  have HM := Lib.hid hm
  clear hm
  go_enter Tryd.func47, Tryd.ntmps47
  go_upto_region 1 with fail
  generalize w.alloc (.cells #[.string key] 9) = w0 at *
  go_wp2_with fail
  refine PD.out.mono ?_
  rintro e w2 ⟨v2, rfl, hR2, hk2⟩
  obtain ⟨q2, c2, rfl, _⟩ := hR2.form
  have hB2 := hk2.blk HB.out.1 HB.out.2.1
  have H2 := Lib.hid (And.intro hB2 (And.intro hR2 hk2))
  have cB2 := hB2.cell 0
  have fB2 := hB2.free 0
  clear hB2 hR2 hk2 PD
  go_wp2
  go_end0
  refine ⟨rfl, ⟨_, (H2.out.1.set 0 (.slice q2 m c2) : Blk _ ob #[.slice q2 m c2] _), ?_, HB.out.2.1⟩, Keep.set (X := fun k => k = ob ∨ o = some k) (((Keep.of_below HB.out.2.2).trans (H2.out.2.2.mono fun k hk => .inr hk))) (p := ⟨ob, 0, none⟩) (.inl (.inl rfl)) _⟩
  rw [HM.out]
  exact H2.out.2.1.keep (Keep.set (X := fun k => k = ob) (Keep.refl _ w2) (p := ⟨ob, 0, none⟩) (.inl rfl) _) (fun g hg e => HB.out.2.1 (by rw [hg, e]))
end Go.Proofs.YtbjbjgfjaopibaaDoor
end

section
/- The law's 'after': what it comes to, plainly; its walk. -/
namespace Go.Proofs.YtbjbjgfjaopibaaDoor
open Go Go.RowKit
set_option linter.unusedSimpArgs false
set_option linter.unusedVariables false
set_option maxRecDepth 100000

def keyLt (k : ByteArray) (x : PairD) : Bool := decide (bsK x.key < bsK k)
def posP (k : ByteArray) (X : List PairD) : Nat := (X.takeWhile (keyLt k)).length
def insP (X : List PairD) (x : PairD) : List PairD := X.take (posP x.key X) ++ x :: X.drop (posP x.key X)
def wOut (k : ByteArray) (X : List PairD) : List PairD := X.filter (fun s => !keyIs k s)
def stepP (X : List PairD) (x : PairD) : List PairD := insP (wOut x.key X) x
def aftP (X : List PairD) (B : BatchD) (n : Nat) : List PairD := (List.range n).foldl (fun l i => stepP l (B.puts.x i)) X
def aftD (X : List PairD) (B : BatchD) (n : Nat) : List PairD := (List.range n).foldl (fun l i => wOut (B.dels.x i) l) (aftP X B B.puts.n)
theorem aftP_succ (X : List PairD) (B : BatchD) (n : Nat) : aftP X B (n + 1) = stepP (aftP X B n) (B.puts.x n) := by unfold aftP; rw [List.range_succ, List.foldl_append]; rfl
theorem aftD_succ (X : List PairD) (B : BatchD) (n : Nat) : aftD X B (n + 1) = wOut (B.dels.x n) (aftD X B n) := by unfold aftD; rw [List.range_succ, List.foldl_append]; rfl
theorem wOut_len (k : ByteArray) (X : List PairD) : (wOut k X).length ≤ X.length := List.length_filter_le _ _
theorem posP_le (k : ByteArray) (X : List PairD) : posP k X ≤ X.length := by
  unfold posP
  have h := congrArg List.length (List.takeWhile_append_dropWhile (p := keyLt k) (l := X))
  rw [List.length_append] at h
  omega
theorem insP_len (X : List PairD) (x : PairD) : (insP X x).length = X.length + 1 := by
  have := posP_le x.key X
  unfold insP
  rw [List.length_append, List.length_cons, List.length_take, List.length_drop]
  omega
theorem aftP_len (X : List PairD) (B : BatchD) : ∀ n, (aftP X B n).length ≤ X.length + n
  | 0 => Nat.le_refl _
  | n + 1 => by
    rw [aftP_succ]
    unfold stepP
    rw [insP_len]
    have := wOut_len (B.puts.x n).key (aftP X B n)
    have := aftP_len X B n
    omega
theorem aftD_len (X : List PairD) (B : BatchD) : ∀ n, (aftD X B n).length ≤ X.length + B.puts.n
  | 0 => aftP_len X B _
  | n + 1 => by rw [aftD_succ]; exact Nat.le_trans (wOut_len _ _) (aftD_len X B n)
theorem aftP_mem (X : List PairD) (B : BatchD) : ∀ n (y : PairD), y ∈ aftP X B n → y ∈ X ∨ ∃ i, i < n ∧ y = B.puts.x i
  | 0, y, h => .inl h
  | n + 1, y, h => by
    rw [aftP_succ] at h
    unfold stepP insP at h
    have h1 : y ∈ wOut (B.puts.x n).key (aftP X B n) ∨ y = B.puts.x n := by
      rcases List.mem_append.1 h with h | h
      · exact .inl (List.mem_of_mem_take h)
      · rcases List.mem_cons.1 h with h | h
        · exact .inr h
        · exact .inl (List.mem_of_mem_drop h)
    rcases h1 with h1 | h1
    · rcases aftP_mem X B n y (List.mem_filter.1 h1).1 with h2 | ⟨i, hi, h2⟩
      · exact .inl h2
      · exact .inr ⟨i, by omega, h2⟩
    · exact .inr ⟨n, by omega, h1⟩
theorem aftD_mem (X : List PairD) (B : BatchD) : ∀ n (y : PairD), y ∈ aftD X B n → y ∈ X ∨ ∃ i, i < B.puts.n ∧ y = B.puts.x i
  | 0, y, h => aftP_mem X B _ y h
  | n + 1, y, h => by rw [aftD_succ] at h; exact aftD_mem X B n y (List.mem_filter.1 h).1
theorem wOut_map (k : ByteArray) (X : List PairD) : (wOut k X).map pairX = delK (X.map pairX) (bsK k) := by
  unfold wOut delK
  rw [List.filter_map]
  congr 1
  refine List.filter_congr fun x _ => ?_
  show (!keyIs k x) = (bsK x.key != bsK k)
  by_cases h : bsK x.key = bsK k
  · rw [keyIs_iff.2 h, h]; simp
  · rw [show keyIs k x = false from by rw [← Bool.not_eq_true, keyIs_iff]; exact h]
    simp [h]
theorem insP_map (x : PairD) : ∀ Y : List PairD, (∀ y ∈ Y, bsK y.key ≠ bsK x.key) → (insP Y x).map pairX = insK (Y.map pairX) (bsK x.key) x.val.z
  | [], _ => rfl
  | y :: t, h => by
    have ih := insP_map x t (fun z hz => h z (List.mem_cons_of_mem _ hz))
    have hy := h y (by simp)
    by_cases hlt : bsK y.key < bsK x.key
    · have e1 : posP x.key (y :: t) = posP x.key t + 1 := by
        unfold posP
        rw [List.takeWhile_cons_of_pos (by unfold keyLt; exact decide_eq_true hlt)]; rfl
      have e2 : insP (y :: t) x = y :: insP t x := by unfold insP; rw [e1]; rfl
      rw [e2, List.map_cons, ih, List.map_cons]
      show _ = (if bsK x.key < bsK y.key then _ else _)
      rw [if_neg (fun h2 => klt_irrefl _ (klt_trans hlt h2))]
    · have e1 : posP x.key (y :: t) = 0 := by
        unfold posP
        rw [List.takeWhile_cons_of_neg (by unfold keyLt; simp [hlt])]; rfl
      have e2 : insP (y :: t) x = x :: y :: t := by unfold insP; rw [e1]; rfl
      rw [e2, List.map_cons, List.map_cons]
      show _ = (if bsK x.key < bsK y.key then _ else _)
      rw [if_pos (klt_tri hlt hy)]
      rfl
theorem stepP_map (X : List PairD) (x : PairD) : (stepP X x).map pairX = putK (X.map pairX) (bsK x.key) x.val.z := by
  unfold stepP putK
  rw [insP_map x _ (fun y hy e => by
    have h := (List.mem_filter.1 hy).2
    rw [keyIs_iff.2 e] at h
    exact absurd h (by decide)), wOut_map]
theorem aftP_map (X : List PairD) (B : BatchD) : ∀ n, (aftP X B n).map pairX = do1 (X.map pairX) B n
  | 0 => rfl
  | n + 1 => by rw [aftP_succ, stepP_map, aftP_map X B n, do1_succ]
theorem aftD_map (X : List PairD) (B : BatchD) : ∀ n, (aftD X B n).map pairX = do2 (X.map pairX) B n
  | 0 => aftP_map X B _
  | n + 1 => by rw [aftD_succ, wOut_map, aftD_map X B n, do2_succ]
theorem aft_do (X : List PairD) (B : BatchD) : (aftD X B B.dels.n).map pairX = doK (X.map pairX) (batX B) := by rw [aftD_map, do2_all]
theorem posP_stop {k : ByteArray} {X : List PairD} {a : Nat} (h : a ≤ X.length) (h1 : ∀ i (hi : i < X.length), i < a → keyLt k X[i] = true) (h2 : ∀ (hi : a < X.length), keyLt k X[a] = false) : posP k X = a := by
  unfold posP
  induction X generalizing a with
  | nil => simp at h; simp [h]
  | cons y t ih =>
    cases a with
    | zero => rw [List.takeWhile_cons_of_neg (by have := h2 (by simp); simpa using this)]; rfl
    | succ a =>
      rw [List.takeWhile_cons_of_pos (by have := h1 0 (by simp) (by omega); simpa using this), List.length_cons]
      rw [ih (a := a) (by simpa using h) (fun i hi hia => by have := h1 (i + 1) (by simpa using hi) (by omega); simpa using this) (fun hi => by have := h2 (by simpa using hi); simpa using this)]
end Go.Proofs.YtbjbjgfjaopibaaDoor
end
