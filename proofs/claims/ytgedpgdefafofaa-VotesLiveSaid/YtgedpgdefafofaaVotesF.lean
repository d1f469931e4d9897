/- The walks of layer 18: Sums, Peers. -/
import Derived.Test.YtgedpgdefafofaaVotesE
namespace Go.Proofs.Ytgedpgdefafofaa
open Go Go.RowKit
set_option linter.unusedSimpArgs false

/-- each once, in order -/
def once (hs : List Nat) : List Nat := hs.foldl (fun acc h => if h ∈ acc then acc else acc ++ [h]) []
theorem once_snoc (hs : List Nat) (h : Nat) : once (hs ++ [h]) = if h ∈ once hs then once hs else once hs ++ [h] := by
  unfold once
  rw [List.foldl_append, List.foldl_cons, List.foldl_nil]
theorem once_mem (hs : List Nat) (x : Nat) : x ∈ once hs ↔ x ∈ hs := by
  have key : ∀ (hs acc : List Nat), x ∈ hs.foldl (fun acc h => if h ∈ acc then acc else acc ++ [h]) acc ↔ x ∈ acc ∨ x ∈ hs := by
    intro hs
    induction hs with
    | nil => intro acc; simp
    | cons h r ih =>
      intro acc
      rw [List.foldl_cons, ih]
      split
      · rename_i hm
        constructor
        · rintro (h1 | h1)
          · exact .inl h1
          · exact .inr (List.mem_cons_of_mem _ h1)
        · rintro (h1 | h1)
          · exact .inl h1
          · rcases List.mem_cons.1 h1 with rfl | h1
            · exact .inl hm
            · exact .inr h1
      · simp only [List.mem_append, List.mem_cons, List.not_mem_nil, or_false]
        constructor
        · rintro ((h1 | h1) | h1)
          · exact .inl h1
          · exact .inr (.inl h1)
          · exact .inr (.inr h1)
        · rintro (h1 | h1 | h1)
          · exact .inl (.inl h1)
          · exact .inl (.inr h1)
          · exact .inr h1
  have := key hs []
  simpa [once] using this
theorem once_len (hs : List Nat) : (once hs).length ≤ hs.length := by
  have key : ∀ (hs acc : List Nat), (hs.foldl (fun acc h => if h ∈ acc then acc else acc ++ [h]) acc).length ≤ acc.length + hs.length := by
    intro hs
    induction hs with
    | nil => intro acc; simp
    | cons h r ih =>
      intro acc
      rw [List.foldl_cons]
      refine Nat.le_trans (ih _) ?_
      split
      · simp
      · simp; omega
  have := key hs []
  simpa [once] using this
theorem take_getD {α : Type} (l : List α) (k : Nat) (d : α) (h : k < l.length) : l.take (k + 1) = l.take k ++ [l.getD k d] := by
  rw [List.take_add_one, List.getElem?_eq_getElem h]; simp [List.getD, h]
theorem vmap_at {L : VL} (hd : (L.map Prod.fst).Nodup) (k : Nat) (hk : k < L.length) : vmap L (L.getD k (0, 0)).1 = some (hv (L.getD k (0, 0)).2) := by
  have key : ∀ (L : VL) (k : Nat), (L.map Prod.fst).Nodup → k < L.length → L.find? (fun e => e.1 == (L.getD k (0, 0)).1) = some (L.getD k (0, 0)) := by
    intro L
    induction L with
    | nil => intro k _ hk; simp at hk
    | cons e r ih =>
      intro k hd hk
      rw [List.map_cons, List.nodup_cons] at hd
      rcases k with _ | k
      · simp
      · have h1 : k < r.length := by simpa using hk
        rw [List.getD_cons_succ, List.find?_cons_of_neg]
        · exact ih k hd.2 h1
        · have hm : r.getD k (0, 0) ∈ r := by rw [List.getD_eq_getElem?_getD, List.getElem?_eq_getElem h1]; exact List.getElem_mem _
          simp only [beq_iff_eq]
          intro e2
          exact hd.1 (by rw [e2]; exact List.mem_map.2 ⟨_, hm, rfl⟩)
  unfold vmap
  rw [key L k hd hk]; rfl
theorem getD_mem {L : VL} {k : Nat} (hk : k < L.length) : L.getD k (0, 0) ∈ L := by rw [List.getD_eq_getElem?_getD, List.getElem?_eq_getElem hk]; exact List.getElem_mem _
theorem i64s_at (L : VL) (k : Nat) (hk : k < L.length) : (L.map fun e => Value.int .i64 e.1)[k]? = some (.int .i64 (L.getD k (0, 0)).1) := by
  rw [List.getElem?_map, List.getElem?_eq_getElem hk, List.getD_eq_getElem?_getD, List.getElem?_eq_getElem hk]; rfl
theorem hashinfo : (Try.prog.info? 26).map (fun i => (i.zero, i.size, i.bytes)) = some (some (hv 0), 32, 32) := by kernel_rfl
set_option maxRecDepth 100000 in
theorem buildHash (h : Nat) (w : World) : (Instr.buildSlice 33 1 #[(0, hv h)]).run Try.prog w = .ok (.slice (some ⟨w.heap.size, 0, none⟩) 1 1) (w.alloc (.cells (hcs h) 26)) := by kernel_rfl
/-- 'build slice' at the list of a region's operations, once its run is known -/
theorem wpl_buildSlice {P : Program} {w w' : World} {ops : Array Oper} {rest : List Oper} {o : Oper} {a : Act} {Q : Exit → Act → World → Prop} (hgd : o.guard = none) (t : TypeId) (n : Nat) (parts : Array (Nat × Operand)) (ho : o.op = .buildSlice t n parts) {ps : Array (Nat × Value)} {v : Value}
    (hp : (parts.map fun (i, x) => (i, a.eval x)) = ps) (hrun : (Instr.buildSlice t n ps).run P w = .ok v w') (h : wpList P ops Q rest (a.put o.dst v) w') : wpList P ops Q (o :: rest) a w := by
  refine wpList_plain hgd fun K hK' => ?_
  unfold Oper.wp
  subst hp
  simp only [execOp, ho, hrun, Sem.run_bind, Sem.run_pure, Result.andThen_ok]
  exact hK' _ _ h
set_option maxHeartbeats 3200000 in
theorem psums (p : Nat) (L : VL) (bm : Nat) (o : Option Nat) (w : World) (h : VAt w p L bm o) (hl : L.length ≤ 10000) (hok : VL.ok L) :
    Calls Try.prog 8 #[.pointer (some ⟨p, 0, none⟩)] w fun e w' => ∃ v o', e = .returned v ∧ RowV w' 26 32 v (once (L.map Prod.snd)).length (hcat (once (L.map Prod.snd))) o' ∧ (∀ g, o' = some g → w.heap.size ≤ g) ∧ Below w.heap.size w w' := by
  have H := Lib.hid h
  obtain ⟨id, v, h1, h2, h3, n1, n2, n3⟩ := h
  have c32 := h1.cell 32
  rw [vcs_32] at c32
  have c33 := h1.cell 33
  rw [vcs_33] at c33
  have hlp := h1.lt
  have PN := Lib.hid (pnone p bm w c32)
  obtain ⟨q, c, rfl, _, _, _⟩ := h3.form
  have H3 := Lib.hid h3
  have H2 := Lib.hid h2
  have HO := Lib.hid hok
  clear h1 h2 h3 n1 n2 n3 hok
  go_enter Try.func8, Try.ntmps8
  go_wp2_with fail
  refine PN.out.mono ?_
  rintro e w1 ⟨rfl, rfl⟩
  go_wp2
  go_loopg [3, 14] L.length (fun gh l i wx => ∃ (k : Nat) (v' : Value), k ≤ L.length ∧ i = .int .i64 (k : Int) ∧ gh = L.length - k ∧ l = v' ∧ Hid (Below w.heap.size w wx ∧ ∃ o', RowV wx 26 32 v' (once ((L.take k).map Prod.snd)).length (hcat (once ((L.take k).map Prod.snd))) o' ∧ (∀ g, o' = some g → w.heap.size ≤ g)))
  case atStart => exact ⟨0, _, Nat.zero_le _, rfl, rfl, rfl, Below.refl _ _, none, RowV.nil _ _ _, fun g hg => by cases hg⟩
  case round =>
    obtain ⟨k, v', hk, rfl, hg, rfl, HM⟩ := hrel
    have HG := Lib.hid hg
    clear hg
    by_cases hlt : k < L.length
    · obtain ⟨g, cap, _, e1, _, _, hgl, hcell, _⟩ := H3.out.mem (by omega)
      cases e1
      have ck := hcell k (by omega)
      rw [i64s_at L k hlt] at ck
      have ck := (HM.out.1.cell (p := ⟨g, k, none⟩) hgl).trans ck
      have cm := (HM.out.1.cell (p := ⟨p, 32, none⟩) hlp).trans c32
      have hmem := getD_mem hlt
      have hwf := (HO.out.2 _ hmem).1
      have hw2 := (HO.out.2 _ hmem).2
      have hlook := (H2.out.keep (X := fun _ => False) (Keep.of_below HM.out.1) (fun h => h)).look Try.underlying3 Try.underlying46 (zeroHash wr) hwf
      rw [vmap_at HO.out.1 k hlt, Option.getD_some] at hlook
      have htk := Lib.hid (take_getD L k (0, 0) hlt)
      generalize L.getD k (0, 0) = ek at *
      obtain ⟨x, hh⟩ := ek
      have hst := storeHash hh wr
      have BH := Lib.hid (Blk.new wr (hcs hh) 26)
      have KB := Lib.hid ((Below.refl wr.heap.size wr).alloc (Nat.le_refl _) (.cells (hcs hh) 26))
      clear hcell hmem
      go_upto_region 8 with fail
      obtain ⟨hbw, o1, r1, ho1⟩ := HM.out
      have hlt1 := r1.lt
      obtain ⟨M, hM⟩ : ∃ M, M = once ((L.take k).map Prod.snd) := ⟨_, rfl⟩
      have hMw : ∀ y ∈ M, y < W256 := fun y hy => by
        rw [hM, once_mem] at hy
        obtain ⟨e, he, rfl⟩ := List.mem_map.1 hy
        exact (HO.out.2 e (List.mem_of_mem_take he)).2
      have hMl : M.length ≤ 10000 := by
        rw [hM]; exact Nat.le_trans (once_len _) (by simp; omega)
      have hMn := Lib.hid (show once ((L.take (k + 1)).map Prod.snd) = if hh ∈ M then M else M ++ [hh] from by rw [htk.out, List.map_append, List.map_cons, List.map_nil, once_snoc, ← hM])
      rw [← hM] at r1
      obtain ⟨q3, c3, rfl, hin⟩ := HsIn.of_row r1 hMw
      have PC := Lib.hid (hcontains q3 M.length c3 M hh _ (hin.below KB.out) hw2 (by omega))
      have R1 := Lib.hid (And.intro hbw (And.intro r1 (And.intro ho1 hlt1)))
      clear hbw r1 ho1 hlt1 hM hMw hin
      generalize wr.alloc (.cells (hcs hh) 26) = wB at *
      generalize hgB : wr.heap.size = GB at *
      have ld1 := BH.out
      go_wp2_with (refine wpl_load rfl 26 (.tmp 6) rfl rfl ld1 Try.underlying26 (by rw [hcs_size]; kernel_rfl) ?_)
      refine PC.out.mono ?_
      rintro e w2 ⟨rfl, hb2⟩
      have ld2 := ld1.beyond hb2
      have B2 := Lib.hid (KB.out.trans (hb2.mono (by rw [← hgB]; exact KB.out.size)))
      clear hb2 ld1
      by_cases hmm : hh ∈ M
      · have hde : decide (hh ∈ M) = true := decide_eq_true hmm
        rw [hde]
        have hMn2 := Lib.hid (hMn.out.trans (if_pos hmm))
        clear hmm hde
        go_wp2
        go_roundg (L.length - (k + 1))
        case measure => rw [HG.out]; omega
        case rel =>
          obtain ⟨hbw, r1, ho1, hlt1⟩ := R1.out
          subst hgB
          exact ⟨k + 1, _, hlt, rfl, rfl, rfl, hbw.trans (B2.out.mono hbw.size), o1, by rw [hMn2.out]; exact r1.keep (X := fun _ => False) (Keep.of_below B2.out) (fun _ _ h => h), ho1⟩
      · have hde : decide (hh ∈ M) = false := decide_eq_false hmm
        rw [hde]
        have hMn2 := Lib.hid (hMn.out.trans (if_neg hmm))
        clear hmm hde
        obtain ⟨hbw, r1, ho1, hlt1⟩ := R1.out
        have hbs := buildHash hh w2
        obtain ⟨i0, hi, hz0, hz1, hz2⟩ := info_parts hashinfo
        have bn := Blk.new w2 (hcs hh) 26
        have r2 := r1.keep (X := fun _ => False) ((Keep.of_below (hgB ▸ B2.out)).alloc (.cells (hcs hh) 26)) (fun _ _ h => h)
        obtain ⟨v4, w4, g4, hrun, r4, hg4, k4⟩ := rowV_append (P := Try.prog) 33 33 i0 (hv 0) Try.underlying33 hi hz0 hz1 hz2 (by rw [show (hv 0).cells = hcs 0 from rfl, hcs_size]) (by decide) r2 (a := ⟨w2.heap.size, 0, none⟩) (m := 1) (c := 1) (news := hls hh) (by rw [hls_length]) (fun j u hu => by rw [Addr.add_lit]; exact blk_range bn j u hu) (fun u hu => (Array.all_eq_true_iff_forall_mem.1 (hcs_one hh)) u (by simpa [hcs] using hu)) (by decide) (by unfold maxLen; omega) (by omega)
        have R4 := Lib.hid (And.intro r4 (And.intro hg4 k4))
        clear r4 hg4 k4 r2 bn r1 ho1 hlt1 hbw
        go_wp2_with (first
          | (at_builtin; refine wpl_append rfl _ _ 33 rfl rfl rfl hrun ?_)
          | (refine wpl_buildSlice (ps := #[(0, hv hh)]) rfl 33 1 #[(0, .tmp 29)] rfl (by simp [Act.put, Act.eval]) hbs ?_)
          | (refine wpl_load rfl 26 (.tmp 6) rfl rfl ld2 Try.underlying26 (by rw [hcs_size]; kernel_rfl) ?_))
        go_roundg (L.length - (k + 1))
        case measure => rw [HG.out]; omega
        case rel =>
          obtain ⟨hbw, r1, ho1, hlt1⟩ := R1.out
          obtain ⟨r4, hg4, k4⟩ := R4.out
          subst hgB
          have bw2 : Below w.heap.size w w2 := hbw.trans (B2.out.mono hbw.size)
          have bw3 := bw2.alloc bw2.size (.cells (hcs hh) 26)
          have bw4 : Below w.heap.size w w4 := bw3.trans (k4.below bw3.size (fun k hk => ho1 k hk))
          refine ⟨k + 1, _, hlt, rfl, rfl, rfl, bw4, some g4, ?_, ?_⟩
          · rw [hMn2.out, hcat_append, List.length_append, show hcat [hh] = hls hh from by simp [hcat]]
            exact r4
          · intro g hg
            cases hg
            rcases hg4 with h1 | h1
            · exact ho1 _ h1
            · exact Nat.le_trans bw3.size h1
    · obtain rfl : k = L.length := by omega
      obtain ⟨hb, o', r1, r2⟩ := HM.out
      rw [List.take_length] at r1
      have R := Lib.hid (And.intro hb (And.intro r1 r2))
      clear hb r1 r2
      go_wp2
      go_ret
      exact ⟨_, o', rfl, R.out.2.1, R.out.2.2, R.out.1⟩
end Go.Proofs.Ytgedpgdefafofaa
