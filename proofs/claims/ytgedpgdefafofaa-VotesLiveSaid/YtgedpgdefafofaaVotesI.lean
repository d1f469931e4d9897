/- The walks of layer 18: the document's votes: Vote, Leave. -/
import Derived.Test.YtgedpgdefafofaaVotesH
namespace Go.Proofs.Ytgedpgdefafofaa
open Go Go.RowKit
set_option linter.unusedSimpArgs false

theorem wp_append_run' {P : Program} {w w' : World} {o : Oper} {a : Act} {K : Act → World → Prop} {Q : Exit → Act → World → Prop} (s x : Operand) (t : TypeId)
    (ho : o.op = .call { callee := .builtin .append, args := #[s, x], argTypes := #[t, t] }) {v1 v2 v' : Value} (hs : a.eval s = v1) (hx : a.eval x = v2)
    (hrun : (Builtin.append_ #[t, t] o.type #[v1, v2]).run P w = .ok v' w') (h : K (a.put o.dst v') w') : o.wp P a w K Q := by
  unfold Oper.wp
  simp [execOp, ho, resolve, invoke, builtin, hs, hx, hrun, Result.andThen]
  exact h
theorem wp_buildSlice_run {P : Program} {w w' : World} {o : Oper} {a : Act} {K : Act → World → Prop} {Q : Exit → Act → World → Prop} (t : TypeId) (n : Nat) (parts : Array (Nat × Operand)) (ho : o.op = .buildSlice t n parts) {ps : Array (Nat × Value)} {v : Value}
    (hp : (parts.map fun (i, x) => (i, a.eval x)) = ps) (hrun : (Instr.buildSlice t n ps).run P w = .ok v w') (h : K (a.put o.dst v) w') : o.wp P a w K Q := by
  unfold Oper.wp
  subst hp
  simp only [execOp, ho, hrun, Sem.run_bind, Sem.run_pure, Result.andThen_ok]
  exact h
theorem yieldsIf_build {P : Program} {ops : Array Oper} {S : World → Prop} {op : Oper} {a : Act} (hw : Region.wanted op (yielded ops a.tmps) = true) (t : TypeId) (parts : Array (Nat × Operand)) (ho : op.op = .build t parts) {ps : Array (Nat × Value)} {v : Value}
    (hp : (parts.map fun (i, x) => (i, a.eval x)) = ps) (hrun : ∀ w, (Instr.build t ps).run P w = .ok v w) : YieldsIf P ops S op v a :=
  .inl ⟨hw, fun w _ => by
    subst hp
    simp only [execOp, ho, hrun, Sem.run_bind, Sem.run_pure, Result.andThen_ok]⟩
theorem qcs_set (id : Nat) (v u : Value) : (hcs id ++ #[v]).setIfInBounds 32 u = hcs id ++ #[u] := by
  apply Array.ext_getElem?; intro i
  rw [Array.getElem?_setIfInBounds]
  by_cases h : i < 32
  · rw [if_neg (by omega), Array.getElem?_append_left (by rw [hcs_size]; omega), Array.getElem?_append_left (by rw [hcs_size]; omega)]
  · by_cases h33 : 32 = i
    · subst h33
      rw [if_pos rfl, if_pos (by simp [hcs_size]), qcs_32]
    · rw [if_neg h33, Array.getElem?_eq_none (by simp [hcs_size]; omega), Array.getElem?_eq_none (by simp [hcs_size]; omega)]
theorem buildVote1 (x : Int) (n : Nat) (w : World) : (Instr.build 54 #[(0, .int .i64 x), (1, hv n)]).run Try.prog w = .ok (.agg (vote1 (x, n)).toArray) w := by kernel_rfl
set_option maxRecDepth 100000 in
theorem buildVoteS (e : Int × Nat) (w : World) : (Instr.buildSlice 40 1 #[(0, .agg (vote1 e).toArray)]).run Try.prog w = .ok (.slice (some ⟨w.heap.size, 0, none⟩) 1 1) (w.alloc (.cells (vote1 e).toArray 54)) := by kernel_rfl
def voteZ : Value := .agg (#[.int .i64 0] ++ hcs 0)
theorem voteinfo : (Try.prog.info? 54).map (fun i => (i.zero, i.size, i.bytes)) = some (some voteZ, 33, 40) := by kernel_rfl
theorem voteZ_size : voteZ.cells.size = 33 := by
  show (#[Value.int .i64 0] ++ hcs 0).size = 33
  simp [hcs_size]
/-- ONE vote is appended -/
theorem rowQ_append {w : World} {v : Value} {L : VL} {o : Option Nat} (h : RowV w 54 33 v L.length (vcat L) o) (e : Int × Nat) (hl : L.length ≤ 10000) :
    ∃ v' w' g', (Builtin.append_ #[40, 40] 40 #[v, .slice (some ⟨w.heap.size, 0, none⟩) 1 1]).run Try.prog (w.alloc (.cells (vote1 e).toArray 54)) = .ok v' w' ∧
      RowV w' 54 33 v' (L ++ [e]).length (vcat (L ++ [e])) (some g') ∧ (o = some g' ∨ w.heap.size ≤ g') ∧ Keep (fun k => o = some k) w w' := by
  obtain ⟨i0, hi, hz0, hz1, hz2⟩ := info_parts voteinfo
  have bn := Blk.new w (vote1 e).toArray 54
  have h2 := h.keep (X := fun _ => False) ((Keep.refl _ w).alloc (.cells (vote1 e).toArray 54)) (fun _ _ h => h)
  obtain ⟨v', w', g', h3, h4, h5, h6⟩ := rowV_append (P := Try.prog) 40 40 i0 voteZ Try.underlying40 hi hz0 hz1 hz2 voteZ_size (by decide) h2 (a := ⟨w.heap.size, 0, none⟩) (m := 1) (c := 1) (news := vote1 e) (by rw [vote1_length])
    (fun j u hu => by rw [Addr.add_lit, bn.cell]; simpa using hu) (fun u hu => (Array.all_eq_true_iff_forall_mem.1 (vote1_one e)) u (by simpa using hu)) (by decide) (by unfold maxLen; omega) (by omega)
  refine ⟨v', w', g', h3, ?_, ?_, ((Keep.refl _ w).alloc _).trans h6⟩
  · rw [vcat_append, List.length_append, show vcat [e] = vote1 e from by simp [vcat]]; exact h4
  · rcases h5 with h5 | h5
    · exact .inl h5
    · right; have : (w.alloc (.cells (vote1 e).toArray 54)).heap.size = w.heap.size + 1 := by simp
      omega
/-- what a call leaves of the document's votes -/
def QGrew (w w' : World) (p : Nat) (L : VL) (o : Option Nat) : Prop := ∃ o', QAt w' p L o' ∧ (∀ g, o' = some g → o = some g ∨ w.heap.size ≤ g) ∧ Keep (fun k => k = p ∨ o = some k) w w'
theorem QAt.lt {w : World} {p : Nat} {L : VL} {o : Option Nat} (h : QAt w p L o) : p < w.heap.size ∧ ∀ g, o = some g → g < w.heap.size := by
  obtain ⟨id, v, h1, h2, h3⟩ := h
  exact ⟨h1.lt, h2.lt⟩
set_option maxHeartbeats 3200000 in
theorem qvote (p : Nat) (L : VL) (o : Option Nat) (x : Int) (n : Nat) (w : World) (h : QAt w p L o) (hl : L.length ≤ 10000) :
    Calls Try.prog 12 #[.pointer (some ⟨p, 0, none⟩), .int .i64 x, hv n] w fun e w' => e = .returned (.int .i64 (if vhas L x then 200 else 0)) ∧ QGrew w w' p (if vhas L x then L else L ++ [(x, n)]) o := by
  have hlt := Lib.hid h.lt
  have h0 := h.below ((Below.refl w.heap.size w).alloc (Nat.le_refl _) (.cells (hcs n) 26))
  have K0 := Lib.hid ((Below.refl w.heap.size w).alloc (Nat.le_refl _) (.cells (hcs n) 26))
  have hB := Lib.hid (Blk.new w (hcs n) 26)
  have PH := qhas p L o x _ h0 hl
  generalize hv' : vhas L x = bh at PH ⊢
  have PH := Lib.hid PH
  have HV := Lib.hid hv'
  have H0 := Lib.hid h0
  have LDI := hashInfo
  clear h0 h hv'
  go_enter Try.func12, Try.ntmps12
  go_upto_region 1 with fail
  generalize w.alloc (.cells (hcs n) 26) = w0 at *
  generalize hgw : w.heap.size = G at *
  go_wp2_with fail
  refine PH.out.mono ?_
  rintro e w2 ⟨rfl, hb⟩
  have H2 := Lib.hid (H0.out.below hb)
  have HB := Lib.hid (hB.out.beyond hb)
  have K2 := Lib.hid (K0.out.trans (hb.mono (by rw [← hgw]; exact K0.out.size)))
  clear hb
  cases bh with
  | true =>
    go_wp2
    go_ret
    subst hgw
    exact ⟨rfl, o, H2.out, fun g h => .inl h, Keep.of_below K2.out⟩
  | false =>
    obtain ⟨id, v, h1, h2, n1⟩ := H2.out
    obtain ⟨v4, w4, g4, hrunA, r4, hg4, k4⟩ := rowQ_append (h2.keep (X := fun _ => False) ((Keep.refl _ w2).drew) (fun _ _ h => h)) (x, n) hl
    have hlen : (L ++ [(x, n)]).length = L.length + 1 := by simp
    rw [hlen] at r4
    have HLEN := Lib.hid hlen
    clear hlen
    obtain ⟨q4, c4, rfl, -, -, -⟩ := r4.form
    have hpl := h1.lt
    have hpG : p < G := hlt.out.1
    have hoG : ¬ o = some G := fun e => by have := hlt.out.2 _ e; omega
    have c32 := h1.cell 32
    rw [qcs_32] at c32
    have b4 := k4.blk h1.drew n1
    have s32 := b4.cell 32
    rw [qcs_32] at s32
    have f32 := b4.free 32
    have hbs := buildVoteS (x, n)
    have hb1 := buildVote1 x n
    have HRUN := Lib.hid hrunA
    have KB1 := Lib.hid ((Keep.refl (fun k => o = some k) w2).drew.alloc (.cells (vote1 (x, n)).toArray 54))
    have KB2 := Lib.hid ((Keep.refl (fun k => o = some k) w2).drew.trans k4)
    have H4 := Lib.hid (And.intro r4 (And.intro b4 (And.intro hg4 (And.intro k4 n1))))
    clear h2 hg4 k4 r4 hrunA h1 b4
    go_upto_region 3 with fail
    refine wp_region_last 12 (fun w' => Keep (fun k => o = some k) w2 w') (by kernel_rfl) ((Keep.refl _ _).drew) (fun hS => ?_)
    refine wpAnyL_take (i := 0) (oi := ⟨_, _, _, _, _, _⟩) (v := ?_) rfl (by kernel_rfl) (by kernel_rfl) (by kernel_rfl) (by kernel_rfl) (fun _ _ _ h => h) (Or.inl ⟨by rfl, ?_⟩) hS ?_
    rotate_left
    · intro w0 hs; have hs1 := (hs.cell (p := ⟨p, 32, none⟩) hpl n1).trans c32; clear hs; go_simp; try (with_reducible rfl)
    try simp only [Act.put, List.setIfInBounds_toArray, List.set_cons_zero, List.set_cons_succ]
    refine wpAnyL_take (i := 1) (oi := ⟨_, _, _, _, _, _⟩) (v := ?_) rfl (by kernel_rfl) (by kernel_rfl) (by kernel_rfl) (by kernel_rfl) (fun _ _ _ h => h) (Or.inl ⟨by rfl, ?_⟩) hS ?_
    rotate_left
    · intro w0 hs; have hs1 := (hs.cell (p := ⟨p, 32, none⟩) hpl n1).trans c32; clear hs; go_simp; try (with_reducible rfl)
    try simp only [Act.put, List.setIfInBounds_toArray, List.set_cons_zero, List.set_cons_succ]
    refine wpAnyL_take (i := 2) (oi := ⟨_, _, _, _, _, _⟩) (v := ?_) rfl (by kernel_rfl) (by kernel_rfl) (by kernel_rfl) (by kernel_rfl) (fun _ _ _ h => h) (Or.inl ⟨by rfl, ?_⟩) hS ?_
    rotate_left
    · intro w0 hs; have hs1 := (hs.cell (p := ⟨p, 32, none⟩) hpl n1).trans c32; clear hs; go_simp; try (with_reducible rfl)
    try simp only [Act.put, List.setIfInBounds_toArray, List.set_cons_zero, List.set_cons_succ]
    refine wpAnyL_take (i := 3) (oi := ⟨_, _, _, _, _, _⟩) (v := ?_) rfl (by kernel_rfl) (by kernel_rfl) (by kernel_rfl) (by kernel_rfl) (fun _ _ _ h => h) (Or.inl ⟨by rfl, ?_⟩) hS ?_
    rotate_left
    · intro w0 hs; have hs1 := (hs.cell (p := ⟨p, 32, none⟩) hpl n1).trans c32; clear hs; go_simp; try (with_reducible rfl)
    try simp only [Act.put, List.setIfInBounds_toArray, List.set_cons_zero, List.set_cons_succ]
    refine wpAnyL_take (i := 4) (oi := ⟨_, _, _, _, _, _⟩) (v := ?_) rfl (by kernel_rfl) (by kernel_rfl) (by kernel_rfl) (by kernel_rfl) (fun _ _ _ h => h) (Or.inl ⟨by rfl, ?_⟩) hS ?_
    rotate_left
    · intro w0 hs; have hs1 := (hs.cell (p := ⟨p, 32, none⟩) hpl n1).trans c32; clear hs; go_simp; try (with_reducible rfl)
    try simp only [Act.put, List.setIfInBounds_toArray, List.set_cons_zero, List.set_cons_succ]
    refine wpAnyL_take (i := 5) (oi := ⟨_, _, _, _, _, _⟩) (v := ?_) rfl (by kernel_rfl) (by kernel_rfl) (by kernel_rfl) (by kernel_rfl) (fun _ _ _ h => h) (Or.inl ⟨by rfl, ?_⟩) hS ?_
    rotate_left
    · intro w0 hs; have hs1 := (hs.cell (p := ⟨p, 32, none⟩) hpl n1).trans c32; clear hs; go_simp; try (with_reducible rfl)
    try simp only [Act.put, List.setIfInBounds_toArray, List.set_cons_zero, List.set_cons_succ]
    refine wpAnyL_take (i := 6) (oi := ⟨_, _, _, _, _, _⟩) (v := hv n) rfl (by kernel_rfl) (by kernel_rfl) (by kernel_rfl) (by kernel_rfl) (fun _ _ _ h => h) (yieldsIf_load_mid (by rfl) 26 (.tmp 5) rfl G 0 rfl (hls n) (.array 32 5) (fun _ hs => blk_range (hs.blk HB.out hoG)) Try.underlying26 rfl LDI) hS ?_
    try simp only [Act.put, List.setIfInBounds_toArray, List.set_cons_zero, List.set_cons_succ]
    refine wpAnyL_take (i := 7) (oi := ⟨_, _, _, _, _, _⟩) (v := .agg (vote1 (x, n)).toArray) rfl (by kernel_rfl) (by kernel_rfl) (by kernel_rfl) (by kernel_rfl) (fun _ _ _ h => h) (yieldsIf_build (by rfl) 54 #[(0, .tmp 15), (1, .tmp 16)] rfl (ps := #[(0, .int .i64 x), (1, hv n)]) (by simp [Act.put, Act.eval]) hb1) hS ?_
    try simp only [Act.put, List.setIfInBounds_toArray, List.set_cons_zero, List.set_cons_succ]
    refine wpAnyL_one (i := 8) (oi := ⟨_, _, _, _, _, _⟩) rfl (by kernel_rfl) (fun K hK => ?_)
    rw [if_pos (by rfl)]
    refine wp_buildSlice_run (ps := #[(0, .agg (vote1 (x, n)).toArray)]) 40 1 #[(0, .tmp 17)] rfl (by simp [Act.put, Act.eval]) (hbs _) ?_
    have hS' := KB1.out
    refine hK.out _ _ (.inr hS') ?_
    clear hS hK
    have hS := hS'; clear hS'
    try simp only [Act.put, List.setIfInBounds_toArray, List.set_cons_zero, List.set_cons_succ]
    refine wpAnyL_one (i := 9) (oi := ⟨_, _, _, _, _, _⟩) rfl (by kernel_rfl) (fun K hK => ?_)
    rw [if_pos (by rfl)]
    refine wp_append_run' _ _ 40 rfl rfl rfl HRUN.out ?_
    have hS' := KB2.out
    refine hK.out _ _ (.inr hS') ?_
    clear hS hK
    have hS := hS'; clear hS'
    try simp only [Act.put, List.setIfInBounds_toArray, List.set_cons_zero, List.set_cons_succ]
    refine wpAnyL_one (i := 10) (oi := ⟨_, _, _, _, _, _⟩) rfl (by kernel_rfl) (fun K hK => ?_)
    rw [if_pos (by rfl)]
    go_simp
    refine hK.out _ _ (.inr hS) ?_
    clear hK
    try simp only [Act.put, List.setIfInBounds_toArray, List.set_cons_zero, List.set_cons_succ]
    refine wpAnyL_take (i := 11) (oi := ⟨_, _, _, _, _, _⟩) (v := ?_) rfl (by kernel_rfl) (by kernel_rfl) (by kernel_rfl) (by kernel_rfl) (fun _ _ _ h => h) (Or.inl ⟨by rfl, ?_⟩) hS ?_
    rotate_left
    · intro w0 hs; have hs1 := (hs.cell (p := ⟨p, 32, none⟩) hpl n1).trans c32; clear hs; go_simp; try (with_reducible rfl)
    try simp only [Act.put, List.setIfInBounds_toArray, List.set_cons_zero, List.set_cons_succ]
    refine wpAnyL_one (i := 12) (oi := ⟨_, _, _, _, _, _⟩) rfl (by kernel_rfl) (fun K hK => ?_)
    rw [if_pos (by rfl)]
    go_simp
    refine hK.out _ _ (.inl rfl) ?_
    clear hK
    try simp only [Act.put, List.setIfInBounds_toArray, List.set_cons_zero, List.set_cons_succ]
    refine wpAnyL_done (by kernel_rfl) ?_ _
    clear hS hoG n1 hbs hb1 s32 f32 c32
    go_wp2
    go_ret
    subst hgw
    obtain ⟨r4, b4, hg4, k4, n1⟩ := H4.out
    have K5 := (Keep.refl (fun k => k = p) w4).set (p := ⟨p, 32, none⟩) (.inl rfl) (.slice q4 (L.length + 1) c4)
    have b5 := b4.set 32 (.slice q4 (L.length + 1) c4)
    rw [qcs_set] at b5
    have gp : g4 ≠ p := by
      rcases hg4 with h | h
      · intro e; exact n1 (by rw [h, e])
      · intro e; have : w2.drew.heap.size = w2.heap.size := rfl
        omega
    refine ⟨rfl, some g4, ⟨id, _, b5, by rw [HLEN.out]; exact r4.keep K5 (fun k hk e => gp (by cases hk; exact e)), fun e => gp (by cases e; rfl)⟩, fun g e => ?_, ?_⟩
    · cases e
      exact hg4.imp (fun h => h) (fun h => Nat.le_trans K2.out.size h)
    · exact (((Keep.of_below K2.out).trans ((Keep.refl _ w2).drew)).trans (k4.mono fun k e => .inr e)).trans (K5.mono fun k e => .inl e)
theorem vdel_snoc (L : VL) (e : Int × Nat) (x : Int) : vdel (L ++ [e]) x = if e.1 == x then vdel L x else vdel L x ++ [e] := by
  unfold vdel
  rw [List.filter_append]
  by_cases he : e.1 == x <;> simp [he]
theorem vdel_len (L : VL) (x : Int) : (vdel L x).length ≤ L.length := List.length_filter_le _ _
set_option maxHeartbeats 3200000 in
theorem qleave (p : Nat) (L : VL) (o : Option Nat) (x : Int) (w : World) (h : QAt w p L o) (hl : L.length ≤ 10000) :
    Calls Try.prog 11 #[.pointer (some ⟨p, 0, none⟩), .int .i64 x] w fun e w' => e = .returned (.int .i64 (if vhas L x then 0 else 200)) ∧ QGrew w w' p (vdel L x) o := by
  have hlt := Lib.hid h.lt
  have PH := qhas p L o x _ h hl
  generalize hv' : vhas L x = bh at PH ⊢
  have PH := Lib.hid PH
  have HV := Lib.hid hv'
  have H0 := Lib.hid h
  have VI := voteInfo
  clear h hv'
  go_enter Try.func11, Try.ntmps11
  go_wp2_with fail
  refine PH.out.mono ?_
  rintro e w2 ⟨rfl, hb⟩
  have H2 := Lib.hid (H0.out.below hb)
  have K2 := Lib.hid hb
  clear hb
  cases bh with
  | false =>
    have HE := Lib.hid (vdel_none (L := L) (x := x) (fun e he h => by
      have : vhas L x = true := by unfold vhas; rw [List.any_eq_true]; exact ⟨e, he, by simp [h]⟩
      rw [HV.out] at this; cases this))
    go_wp2
    go_ret
    exact ⟨rfl, o, by rw [HE.out]; exact H2.out, fun g h => .inl h, Keep.of_below K2.out⟩
  | true =>
    obtain ⟨id, v, h1, h2, n1⟩ := H2.out
    have hpl := h1.lt
    have c32 := h1.cell 32
    rw [qcs_32] at c32
    obtain ⟨q, c, rfl, -, -, -⟩ := h2.form
    have HR := Lib.hid h2
    have HP := Lib.hid h1
    clear h1 h2 n1
    go_wp2
    go_loopg [5, 17] L.length (fun gh l i wx => ∃ (k : Nat) (v' : Value), k ≤ L.length ∧ i = .int .i64 (k : Int) ∧ gh = L.length - k ∧ l = v' ∧ Hid (Below w2.heap.size w2 wx ∧ ∃ o', RowV wx 54 33 v' (vdel (L.take k) x).length (vcat (vdel (L.take k) x)) o' ∧ ∀ g, o' = some g → w2.heap.size ≤ g))
    case atStart => exact ⟨0, _, Nat.zero_le _, rfl, rfl, rfl, Below.refl _ _, none, RowV.nil _ _ _, fun g hg => by cases hg⟩
    case round =>
      obtain ⟨k, v', hk, rfl, hg, rfl, HM⟩ := hrel
      have HG := Lib.hid hg
      clear hg
      by_cases hlt : k < L.length
      · obtain ⟨g, cap, _, e1, hgl, hr⟩ := row_vote (HR.out.keep (X := fun _ => False) (Keep.of_below HM.out.1) (fun _ _ h => h)) k hlt
        cases e1
        have htk := Lib.hid (take_getD L k (0, 0) hlt)
        generalize L.getD k (0, 0) = ek at *
        have hst := storeVote ek wr
        have BH := Lib.hid (Blk.new wr (vote1 ek).toArray 54)
        have KB := Lib.hid ((Below.refl wr.heap.size wr).alloc (Nat.le_refl _) (.cells (vote1 ek).toArray 54))
        go_upto_region 7 with (refine wpList_load_mid rfl 54 (.tmp 19) rfl g (k * 33) rfl (vote1 ek) _ hr Try.underlying54 rfl VI ?_)
        generalize wr.alloc (.cells (vote1 ek).toArray 54) = wB at *
        have c0 : wB.cell? ⟨wr.heap.size, 0, none⟩ = some (.int .i64 ek.1) := BH.out.cell 0
        have hsn := Lib.hid (vdel_snoc (L.take k) ek x)
        rw [← htk.out] at hsn
        clear hst hr
        cases hx : (ek.1 == x) with
        | true =>
          have hsn2 := Lib.hid (hsn.out.trans (if_pos hx))
          go_wp2
          go_roundg (L.length - (k + 1))
          case measure => rw [HG.out]; omega
          case rel =>
            obtain ⟨hb, o1, r1, ho1⟩ := HM.out
            exact ⟨k + 1, _, hlt, rfl, rfl, rfl, hb.trans (KB.out.mono hb.size), o1, by rw [hsn2.out]; exact r1.keep (X := fun _ => False) (Keep.of_below KB.out) (fun _ _ h => h), ho1⟩
        | false =>
          have hsn2 := Lib.hid (hsn.out.trans (if_neg (by rw [hx]; decide)))
          obtain ⟨hb, o1, r1, ho1⟩ := HM.out
          have hln := vdel_len (L.take k) x
          have hln2 : (L.take k).length ≤ 10000 := by rw [List.length_take]; omega
          obtain ⟨v4, w4, g4, hrunA, r4, hg4, k4⟩ := rowQ_append (r1.keep (X := fun _ => False) (Keep.of_below KB.out) (fun _ _ h => h)) ek (by omega)
          have ld := BH.out
          have hbs := buildVoteS ek wB
          have R4 := Lib.hid (And.intro r4 (And.intro hg4 (And.intro k4 (And.intro ho1 (hb.trans (KB.out.mono hb.size))))))
          clear r4 hg4 k4 r1 ho1 hb
          go_wp2_with (first
            | (at_builtin; refine wpl_append rfl _ _ 40 rfl rfl rfl hrunA ?_)
            | (refine wpl_buildSlice (ps := #[(0, .agg (vote1 ek).toArray)]) rfl 40 1 #[(0, .tmp 26)] rfl (by simp [Act.put, Act.eval]) hbs ?_)
            | (refine wpList_load_row rfl 54 (.tmp 7) rfl wr.heap.size rfl _ (vote1 ek).toArray (0, 0) _ ld Try.underlying54 rfl (by rw [VI]; simp [vote1_length]) ?_))
          go_roundg (L.length - (k + 1))
          case measure => rw [HG.out]; omega
          case rel =>
            obtain ⟨r4, hg4, k4, ho1, hb⟩ := R4.out
            refine ⟨k + 1, _, hlt, rfl, rfl, rfl, hb.trans (k4.below hb.size (fun k hk => ho1 k hk)), some g4, by rw [hsn2.out]; exact r4, fun g hg => ?_⟩
            cases hg
            rcases hg4 with h1 | h1
            · exact ho1 _ h1
            · exact Nat.le_trans hb.size h1
      · obtain rfl : k = L.length := by omega
        obtain ⟨hb, o', r1, r2⟩ := HM.out
        rw [List.take_length] at r1
        have h1 := HP.out.beyond hb
        have s32 := h1.cell 32
        rw [qcs_32] at s32
        have f32 := h1.free 32
        have R := Lib.hid (And.intro hb (And.intro r1 r2))
        obtain ⟨q4, c4, rfl, -, -, -⟩ := r1.form
        have HW := Lib.hid h1
        clear hb r1 r2 h1
        go_wp2
        go_ret
        obtain ⟨hb, r1, r2⟩ := R.out
        have K5 := (Keep.refl (fun k => k = p) wr).set (p := ⟨p, 32, none⟩) (.inl rfl) (.slice q4 (vdel L x).length c4)
        have b5 := HW.out.set 32 (.slice q4 (vdel L x).length c4)
        rw [qcs_set] at b5
        have gp : ∀ g, o' = some g → g ≠ p := fun g h e => by have := r2 g h; omega
        refine ⟨rfl, o', ⟨id, _, b5, r1.keep K5 (fun k hk e => gp k hk e), fun e => gp p e rfl⟩, fun g e => .inr (Nat.le_trans K2.out.size (r2 g e)), ?_⟩
        exact ((Keep.of_below K2.out).trans (Keep.of_below hb)).trans (K5.mono fun k e => .inl e)
end Go.Proofs.Ytgedpgdefafofaa
