/- The walks of layer 18: Peers; the document's votes: Has. -/
import Derived.Test.YtgedpgdefafofaaVotesF
namespace Go.Proofs.Ytgedpgdefafofaa
open Go Go.RowKit
set_option linter.unusedSimpArgs false

/-- those who said one -/
def saidBy (L : VL) (h : Nat) : List Int := (L.filter fun e => e.2 == h).map Prod.fst
theorem saidBy_snoc (L : VL) (e : Int × Nat) (h : Nat) : saidBy (L ++ [e]) h = if e.2 == h then saidBy L h ++ [e.1] else saidBy L h := by
  unfold saidBy
  rw [List.filter_append, List.map_append]
  by_cases he : e.2 == h <;> simp [he]
theorem saidBy_len (L : VL) (h : Nat) : (saidBy L h).length ≤ L.length := by
  unfold saidBy; rw [List.length_map]; exact List.length_filter_le _ _
theorem buildInt (x : Int) (w : World) : (Instr.buildSlice 35 1 #[(0, .int .i64 x)]).run Try.prog w = .ok (.slice (some ⟨w.heap.size, 0, none⟩) 1 1) (w.alloc (.cells #[.int .i64 x] 3)) := by kernel_rfl
set_option maxHeartbeats 3200000 in
theorem ppeers (p : Nat) (L : VL) (bm : Nat) (o : Option Nat) (h : Nat) (w : World) (hV : VAt w p L bm o) (hl : L.length ≤ 10000) (hok : VL.ok L) (hw : h < W256) :
    Calls Try.prog 9 #[.pointer (some ⟨p, 0, none⟩), hv h] w fun e w' => ∃ v o', e = .returned v ∧ RowV w' 3 1 v (saidBy L h).length (i64s (saidBy L h)) o' ∧ (∀ g, o' = some g → w.heap.size ≤ g) ∧ Below w.heap.size w w' := by
  have hV0 := hV.below ((Below.refl w.heap.size w).alloc (Nat.le_refl _) (.cells (hcs h) 26))
  have BX := Lib.hid (Blk.new w (hcs h) 26)
  have K0 := Lib.hid ((Below.refl w.heap.size w).alloc (Nat.le_refl _) (.cells (hcs h) 26))
  have LDI := hashInfo
  clear hV
  go_enter Try.func9, Try.ntmps9
  go_upto_region 1 with fail
  generalize w.alloc (.cells (hcs h) 26) = w0 at *
  generalize hgw : w.heap.size = G at *
  obtain ⟨id, v, h1, h2, h3, n1, n2, n3⟩ := hV0
  have c32 := h1.cell 32
  rw [vcs_32] at c32
  have c33 := h1.cell 33
  rw [vcs_33] at c33
  have hlp := h1.lt
  have PN := Lib.hid (pnone p bm w0 c32)
  obtain ⟨q, c, rfl, _, _, _⟩ := h3.form
  have H3 := Lib.hid h3
  have H2 := Lib.hid h2
  have HO := Lib.hid hok
  clear h1 h2 h3 n1 n2 n3 hok
  go_wp2_with fail
  refine PN.out.mono ?_
  rintro e w1 ⟨rfl, rfl⟩
  go_wp2
  go_loopg [5, 15] L.length (fun gh l i wx => ∃ (k : Nat) (v' : Value), k ≤ L.length ∧ i = .int .i64 (k : Int) ∧ gh = L.length - k ∧ l = v' ∧ Hid (Below w0.heap.size w0 wx ∧ ∃ o', RowV wx 3 1 v' (saidBy (L.take k) h).length (i64s (saidBy (L.take k) h)) o' ∧ ∀ g, o' = some g → w0.heap.size ≤ g))
  case atStart => exact ⟨0, _, Nat.zero_le _, rfl, rfl, rfl, Below.refl _ _, none, RowV.nil _ _ _, fun g hg => by cases hg⟩
  case round =>
    obtain ⟨k, v', hk, rfl, hg, rfl, HM⟩ := hrel
    have HG := Lib.hid hg
    clear hg
    by_cases hlt : k < L.length
    · obtain ⟨g, cap, _, e1, _, _, hgl, hcell, _⟩ := H3.out.mem (by omega)
      cases e1
      have ck := hcell k (by omega)
      rw [i64s_at L k hlt] at ck
      have ck := (HM.out.1.cell (p := ⟨g, k, none⟩) hgl).trans ck
      have cm := (HM.out.1.drew.cell (p := ⟨p, 32, none⟩) hlp).trans c32
      have hmem := getD_mem hlt
      have hwf := (HO.out.2 _ hmem).1
      have hw2 := (HO.out.2 _ hmem).2
      have hlook := ((H2.out.keep (X := fun _ => False) (Keep.of_below HM.out.1) (fun h => h)).drew).look Try.underlying3 Try.underlying46 (zeroHash wr.drew) hwf
      rw [vmap_at HO.out.1 k hlt, Option.getD_some] at hlook
      have htk := Lib.hid (take_getD L k (0, 0) hlt)
      generalize L.getD k (0, 0) = ek at *
      obtain ⟨x, hh⟩ := ek
      have heq := fun w' => heql hh h hw2 hw w'
      have LD1 : wr.drew.rangeAt G 0 (hls h) := blk_range ((BX.out.beyond HM.out.1).drew)
      clear hcell hmem
      go_upto_region 7 with fail
      refine wp_region_held_drew (S := fun w' => w' = wr.drew) (by kernel_rfl) rfl (fun hS => ?_)
      refine wpAnyH_take (i := 0) (oi := ⟨_, _, _, _, _, _⟩) (v := ?_) rfl (by kernel_rfl) (by kernel_rfl) (by kernel_rfl) (fun _ _ _ h => h) (Or.inl ⟨by rfl, ?_⟩) hS ?_
      rotate_left
      · intro w0 hs; subst hs; go_simp; try (with_reducible rfl)
      try simp only [Act.put, List.setIfInBounds_toArray, List.set_cons_zero, List.set_cons_succ]
      refine wpAnyH_take (i := 1) (oi := ⟨_, _, _, _, _, _⟩) (v := ?_) rfl (by kernel_rfl) (by kernel_rfl) (by kernel_rfl) (fun _ _ _ h => h) (Or.inl ⟨by rfl, ?_⟩) hS ?_
      rotate_left
      · intro w0 hs; subst hs; go_simp; try (with_reducible rfl)
      try simp only [Act.put, List.setIfInBounds_toArray, List.set_cons_zero, List.set_cons_succ]
      refine wpAnyH_take (i := 2) (oi := ⟨_, _, _, _, _, _⟩) (v := ?_) rfl (by kernel_rfl) (by kernel_rfl) (by kernel_rfl) (fun _ _ _ h => h) (Or.inl ⟨by rfl, ?_⟩) hS ?_
      rotate_left
      · intro w0 hs; subst hs; go_simp; try (with_reducible rfl)
      try simp only [Act.put, List.setIfInBounds_toArray, List.set_cons_zero, List.set_cons_succ]
      refine wpAnyH_take (i := 3) (oi := ⟨_, _, _, _, _, _⟩) (v := ?_) rfl (by kernel_rfl) (by kernel_rfl) (by kernel_rfl) (fun _ _ _ h => h) (Or.inl ⟨by rfl, ?_⟩) hS ?_
      rotate_left
      · intro w0 hs; subst hs; go_simp; try (with_reducible rfl)
      try simp only [Act.put, List.setIfInBounds_toArray, List.set_cons_zero, List.set_cons_succ]
      refine wpAnyH_take (i := 4) (oi := ⟨_, _, _, _, _, _⟩) (v := ?_) rfl (by kernel_rfl) (by kernel_rfl) (by kernel_rfl) (fun _ _ _ h => h) (Or.inl ⟨by rfl, ?_⟩) hS ?_
      rotate_left
      · intro w0 hs; subst hs; go_simp; try (with_reducible rfl)
      try simp only [Act.put, List.setIfInBounds_toArray, List.set_cons_zero, List.set_cons_succ]
      refine wpAnyH_take (i := 5) (oi := ⟨_, _, _, _, _, _⟩) (v := ?_) rfl (by kernel_rfl) (by kernel_rfl) (by kernel_rfl) (fun _ _ _ h => h) (Or.inl ⟨by rfl, ?_⟩) hS ?_
      rotate_left
      · intro w0 hs; subst hs; go_simp; try (with_reducible rfl)
      try simp only [Act.put, List.setIfInBounds_toArray, List.set_cons_zero, List.set_cons_succ]
      refine wpAnyH_take (i := 6) (oi := ⟨_, _, _, _, _, _⟩) (v := hv h) rfl (by kernel_rfl) (by kernel_rfl) (by kernel_rfl) (fun _ _ _ h => h) (yieldsIf_load_mid (by rfl) 26 (.tmp 3) rfl G 0 rfl (hls h) (.array 32 5) (fun _ hs => hs ▸ LD1) Try.underlying26 rfl LDI) hS ?_
      try simp only [Act.put, List.setIfInBounds_toArray, List.set_cons_zero, List.set_cons_succ]
      refine wpAnyH_take (i := 7) (oi := ⟨_, _, _, _, _, _⟩) (v := ?_) rfl (by kernel_rfl) (by kernel_rfl) (by kernel_rfl) (fun _ _ _ h => h) (Or.inl ⟨by rfl, ?_⟩) hS ?_
      rotate_left
      · intro w0 hs; subst hs; go_simp; try (with_reducible rfl)
      try simp only [Act.put, List.setIfInBounds_toArray, List.set_cons_zero, List.set_cons_succ]
      refine wpAnyH_done (by kernel_rfl) ?_ _
      clear hS
      have hsn := Lib.hid (saidBy_snoc (L.take k) (x, hh) h)
      rw [← htk.out] at hsn
      clear LD1 heq hlook cm
      by_cases he : hh = h
      · have heb : (hh == h) = true := by rw [he]; exact beq_self_eq_true _
        have hsn2 := Lib.hid (hsn.out.trans (if_pos heb))
        rw [heb]
        clear heb
        obtain ⟨i0, hi, hz0, hz1, hz2⟩ := info_parts intinfo
        obtain ⟨o1, r1, ho1⟩ := HM.out.2
        have hln := saidBy_len (L.take k) h
        have hln2 : (L.take k).length ≤ 10000 := by rw [List.length_take]; omega
        obtain ⟨g', cap', w4, hrunA, r4, hg4, k4⟩ := rowV_append1 (P := Try.prog) 35 35 i0 (.int .i64 0) Try.underlying35 hi hz0 hz1 hz2 rfl (r1.keep (X := fun _ => False) ((Keep.refl _ wr).drew) (fun _ _ h => h)) (.int .i64 x) rfl (by unfold maxLen; omega) (by omega)
        have R4 := Lib.hid (And.intro r4 (And.intro hg4 (And.intro k4 ho1)))
        clear r4 hg4 k4 r1 ho1
        go_wp2_with (at_builtin; refine wpl_append rfl _ _ 35 rfl rfl rfl hrunA ?_)
        go_roundg (L.length - (k + 1))
        case measure => rw [HG.out]; omega
        case rel =>
          obtain ⟨r4, hg4, k4, ho1⟩ := R4.out
          have hb := HM.out.1.drew
          refine ⟨k + 1, _, hlt, rfl, rfl, rfl, hb.trans (k4.below hb.size (fun k hk => ho1 k hk)), some g', ?_, ?_⟩
          · rw [hsn2.out, List.length_append]
            have e : i64s (saidBy (L.take k) h ++ [x]) = i64s (saidBy (L.take k) h) ++ [.int .i64 x] := by simp [i64s]
            rw [e]; exact r4
          · intro g hg
            cases hg
            rcases hg4 with h1 | h1
            · exact ho1 _ h1
            · exact Nat.le_trans hb.size h1
      · have heb : (hh == h) = false := beq_false_of_ne he
        have hsn2 := Lib.hid (hsn.out.trans (if_neg (by rw [heb]; decide)))
        rw [heb]
        clear heb
        go_wp2
        go_roundg (L.length - (k + 1))
        case measure => rw [HG.out]; omega
        case rel =>
          obtain ⟨o1, r1, ho1⟩ := HM.out.2
          exact ⟨k + 1, _, hlt, rfl, rfl, rfl, HM.out.1.drew, o1, by rw [hsn2.out]; exact r1.keep (X := fun _ => False) ((Keep.refl _ wr).drew) (fun _ _ h => h), ho1⟩
    · obtain rfl : k = L.length := by omega
      obtain ⟨hb, o', r1, r2⟩ := HM.out
      rw [List.take_length] at r1
      have R := Lib.hid (And.intro hb (And.intro r1 r2))
      clear hb r1 r2
      go_wp2
      go_ret
      subst hgw
      exact ⟨_, o', rfl, R.out.2.1, fun g hg => Nat.le_trans K0.out.size (R.out.2.2 g hg), K0.out.trans (R.out.1.mono K0.out.size)⟩

/-- the cells of a vote -/
def vote1 (e : Int × Nat) : List Value := .int .i64 e.1 :: hls e.2
theorem vote1_length (e : Int × Nat) : (vote1 e).length = 33 := by simp [vote1, hls_length]
theorem vote1_one (e : Int × Nat) : (vote1 e).toArray.all (·.oneCell') = true := by
  rw [Array.all_eq_true_iff_forall_mem]
  intro u hu
  simp only [vote1, List.mem_toArray, List.mem_cons] at hu
  rcases hu with rfl | hu
  · rfl
  · exact (Array.all_eq_true_iff_forall_mem.1 (hcs_one e.2)) u (by simpa [hcs] using hu)
def vcat (L : VL) : List Value := L.flatMap vote1
theorem vcat_length (L : VL) : (vcat L).length = L.length * 33 := by
  induction L with
  | nil => rfl
  | cons h r ih =>
    have e : vcat (h :: r) = vote1 h ++ vcat r := by simp [vcat]
    rw [e, List.length_append, ih, vote1_length, List.length_cons]; omega
theorem vcat_append (a b : VL) : vcat (a ++ b) = vcat a ++ vcat b := by simp [vcat]
theorem vcat_get : ∀ (L : VL) (i j : Nat), i < L.length → j < 33 → (vcat L)[i * 33 + j]? = (vote1 (L.getD i (0, 0)))[j]?
  | [], i, j, hi, _ => by simp at hi
  | h :: r, 0, j, _, hj => by
    have e : vcat (h :: r) = vote1 h ++ vcat r := by simp [vcat]
    rw [e, Nat.zero_mul, Nat.zero_add, List.getElem?_append_left (by rw [vote1_length]; exact hj)]; rfl
  | h :: r, i + 1, j, hi, hj => by
    have e : vcat (h :: r) = vote1 h ++ vcat r := by simp [vcat]
    rw [e, List.getElem?_append_right (by rw [vote1_length]; omega), vote1_length, show (i + 1) * 33 + j - 33 = i * 33 + j from by omega, vcat_get r i j (by simpa using hi) hj]
    simp
/-- the document's votes, in memory -/
def QAt (w : World) (p : Nat) (L : VL) (o : Option Nat) : Prop :=
  ∃ id v, Blk w p (hcs id ++ #[v]) 42 ∧ RowV w 54 33 v L.length (vcat L) o ∧ o ≠ some p
theorem QAt.keep {X : Nat → Prop} {w w' : World} {p : Nat} {L : VL} {o : Option Nat} (h : QAt w p L o) (hk : Keep X w w') (h1 : ¬ X p) (h2 : ∀ g, o = some g → ¬ X g) : QAt w' p L o := by
  obtain ⟨id, v, b, r, n⟩ := h
  exact ⟨id, v, hk.blk b h1, r.keep hk h2, n⟩
theorem QAt.below {w w' : World} {p : Nat} {L : VL} {o : Option Nat} (h : QAt w p L o) (hk : Below w.heap.size w w') : QAt w' p L o := h.keep (X := fun _ => False) (Keep.of_below hk) (fun h => h) (fun _ _ h => h)
theorem qcs_32 (id : Nat) (v : Value) : (hcs id ++ #[v])[32]? = some v := by
  rw [Array.getElem?_append_right (by rw [hcs_size]; omega), hcs_size]; rfl
theorem voteInfo : (Try.prog.info? 54).map (·.size) = some 33 := by kernel_rfl
/-- where a vote stands -/
theorem row_vote {w : World} {v : Value} {L : VL} {o : Option Nat} (h : RowV w 54 33 v L.length (vcat L) o) (k : Nat) (hk : k < L.length) :
    ∃ g cap, o = some g ∧ v = .slice (some ⟨g, 0, none⟩) L.length cap ∧ g < w.heap.size ∧ w.rangeAt g (k * 33) (vote1 (L.getD k (0, 0))) := by
  obtain ⟨g, cap, h1, h2, _, _, h3, h4, _⟩ := h.mem (by omega)
  refine ⟨g, cap, h1, h2, h3, fun j u hu => ?_⟩
  have hj : j < 33 := by have := (List.getElem?_eq_some_iff.1 hu).1; rwa [vote1_length] at this
  rw [h4 _ (by omega), vcat_get L k j hk hj, hu]
/-- a variable of type vote, new, is given a value -/
theorem storeVote (e : Int × Nat) (w : World) : (storeCells ⟨w.heap.size, 0, none⟩ (vote1 e)).run Try.prog (w.alloc (.cells #[.int .i64 0, .int .u8 0, .int .u8 0, .int .u8 0, .int .u8 0, .int .u8 0, .int .u8 0, .int .u8 0, .int .u8 0, .int .u8 0, .int .u8 0, .int .u8 0, .int .u8 0, .int .u8 0, .int .u8 0, .int .u8 0, .int .u8 0, .int .u8 0, .int .u8 0, .int .u8 0, .int .u8 0, .int .u8 0, .int .u8 0, .int .u8 0, .int .u8 0, .int .u8 0, .int .u8 0, .int .u8 0, .int .u8 0, .int .u8 0, .int .u8 0, .int .u8 0, .int .u8 0] 54)) = .ok () (w.alloc (.cells (vote1 e).toArray 54)) := by
  have := store_new (P := Try.prog) w 54 #[.int .i64 0, .int .u8 0, .int .u8 0, .int .u8 0, .int .u8 0, .int .u8 0, .int .u8 0, .int .u8 0, .int .u8 0, .int .u8 0, .int .u8 0, .int .u8 0, .int .u8 0, .int .u8 0, .int .u8 0, .int .u8 0, .int .u8 0, .int .u8 0, .int .u8 0, .int .u8 0, .int .u8 0, .int .u8 0, .int .u8 0, .int .u8 0, .int .u8 0, .int .u8 0, .int .u8 0, .int .u8 0, .int .u8 0, .int .u8 0, .int .u8 0, .int .u8 0, .int .u8 0] (vote1 e).toArray (by simp [vote1_length]) (vote1_one e)
  simpa using this
end Go.Proofs.Ytgedpgdefafofaa
