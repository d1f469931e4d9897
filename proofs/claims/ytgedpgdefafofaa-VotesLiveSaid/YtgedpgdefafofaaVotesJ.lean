/- The walks of layer 18: the document's votes: Peers, Sums. -/
import Derived.Test.YtgedpgdefafofaaVotesI
namespace Go.Proofs.Ytgedpgdefafofaa
open Go Go.RowKit
set_option linter.unusedSimpArgs false

theorem vote_hash {w : World} {g : Nat} {e : Int × Nat} (h : Blk w g (vote1 e).toArray 54) : w.rangeAt g 1 (hls e.2) := fun j u hu => by
  rw [h.cell]
  simp only [vote1, List.getElem?_toArray]
  rw [Nat.add_comm 1 j, List.getElem?_cons_succ]; exact hu
/-- a hash is loaded, wherever it stands -/
theorem wpl_loadH {ops : Array Oper} {rest : List Oper} {o : Oper} {a : Act} {w : World} {Q : Exit → Act → World → Prop} (hgd : o.guard = none) (x : Operand) (ho : o.op = .load 26 x) (b k : Nat) (hx : a.eval x = .pointer (some ⟨b, k, none⟩)) (n : Nat) (hr : w.rangeAt b k (hls n))
    (h : wpList Try.prog ops Q rest (a.put o.dst (hv n)) w) : wpList Try.prog ops Q (o :: rest) a w :=
  wpList_load_mid hgd 26 x ho b k hx (hls n) (.array 32 5) hr Try.underlying26 rfl hashInfo h
/-- the same, guarded -/
theorem wpl_loadHg {ops : Array Oper} {rest : List Oper} {o : Oper} {a : Act} {w : World} {Q : Exit → Act → World → Prop} (hw : Region.wanted o (yielded ops a.tmps) = true) (x : Operand) (ho : o.op = .load 26 x) (b k : Nat) (hx : a.eval x = .pointer (some ⟨b, k, none⟩)) (n : Nat) (hr : w.rangeAt b k (hls n))
    (h : wpList Try.prog ops Q rest (a.put o.dst (hv n)) w) : wpList Try.prog ops Q (o :: rest) a w :=
  BigFrame.wpList_want hw (fun K hK => wp_load_mid 26 x ho b k hx (hls n) (.array 32 5) hr Try.underlying26 rfl hashInfo (hK _ _ h))
set_option maxHeartbeats 3200000 in
theorem qpeers (p : Nat) (L : VL) (o : Option Nat) (h : Nat) (w : World) (hQ : QAt w p L o) (hl : L.length ≤ 10000) (hok : VL.ok L) (hw : h < W256) :
    Calls Try.prog 17 #[.pointer (some ⟨p, 0, none⟩), hv h] w fun e w' => ∃ v o', e = .returned v ∧ RowV w' 3 1 v (saidBy L h).length (i64s (saidBy L h)) o' ∧ (∀ g, o' = some g → w.heap.size ≤ g) ∧ Below w.heap.size w w' := by
  have hQ0 := hQ.below ((Below.refl w.heap.size w).alloc (Nat.le_refl _) (.cells (hcs h) 26))
  have BX := Lib.hid (Blk.new w (hcs h) 26)
  have K0 := Lib.hid ((Below.refl w.heap.size w).alloc (Nat.le_refl _) (.cells (hcs h) 26))
  have LDI := hashInfo
  have VI := voteInfo
  clear hQ
  go_enter Try.func17, Try.ntmps17
  go_upto_region 1 with fail
  generalize w.alloc (.cells (hcs h) 26) = w0 at *
  generalize hgw : w.heap.size = G at *
  obtain ⟨id, v, h1, h2, n1⟩ := hQ0
  have c32 := h1.cell 32
  rw [qcs_32] at c32
  obtain ⟨q, c, rfl, -, -, -⟩ := h2.form
  have H2 := Lib.hid h2
  have HO := Lib.hid hok
  clear h1 h2 n1 hok
  go_wp2
  go_loopg [5, 13] L.length (fun gh l i wx => ∃ (k : Nat) (v' : Value), k ≤ L.length ∧ i = .int .i64 (k : Int) ∧ gh = L.length - k ∧ l = v' ∧ Hid (Below w0.heap.size w0 wx ∧ ∃ o', RowV wx 3 1 v' (saidBy (L.take k) h).length (i64s (saidBy (L.take k) h)) o' ∧ ∀ g, o' = some g → w0.heap.size ≤ g))
  case atStart => exact ⟨0, _, Nat.zero_le _, rfl, rfl, rfl, Below.refl _ _, none, RowV.nil _ _ _, fun g hg => by cases hg⟩
  case round =>
    obtain ⟨k, v', hk, rfl, hg, rfl, HM⟩ := hrel
    have HG := Lib.hid hg
    clear hg
    by_cases hlt : k < L.length
    · obtain ⟨g, cap, _, e1, hgl, hr⟩ := row_vote (H2.out.keep (X := fun _ => False) (Keep.of_below HM.out.1) (fun _ _ h => h)) k hlt
      cases e1
      have htk := Lib.hid (take_getD L k (0, 0) hlt)
      have hw2 := vote_wf HO.out hlt
      generalize L.getD k (0, 0) = ek at *
      have hst := storeVote ek wr
      have BH := Lib.hid (Blk.new wr (vote1 ek).toArray 54)
      have KB := Lib.hid ((Below.refl wr.heap.size wr).alloc (Nat.le_refl _) (.cells (vote1 ek).toArray 54))
      go_upto_region 5 with (refine wpList_load_mid rfl 54 (.tmp 15) rfl g (k * 33) rfl (vote1 ek) _ hr Try.underlying54 rfl VI ?_)
      generalize wr.alloc (.cells (vote1 ek).toArray 54) = wB at *
      have LD1 := vote_hash BH.out
      have LD2 : wB.rangeAt G 0 (hls h) := blk_range ((BX.out.beyond HM.out.1).beyond KB.out)
      have c0 : wB.cell? ⟨wr.heap.size, 0, none⟩ = some (.int .i64 ek.1) := BH.out.cell 0
      have hsn := Lib.hid (saidBy_snoc (L.take k) ek h)
      rw [← htk.out] at hsn
      obtain ⟨x, hh⟩ := ek
      have heq := fun w' => heql hh h hw2 hw w'
      clear hst hr
      replace hsn := hsn.out
      simp only [] at hsn
      generalize (hh == h) = bq at heq hsn
      have hsn := Lib.hid hsn
      cases bq with
      | true =>
        obtain ⟨i0, hi, hz0, hz1, hz2⟩ := info_parts intinfo
        obtain ⟨hb, o1, r1, ho1⟩ := HM.out
        have hln := saidBy_len (L.take k) h
        have hln2 : (L.take k).length ≤ 10000 := by rw [List.length_take]; omega
        obtain ⟨g', cap', w4, hrunA, r4, hg4, k4⟩ := rowV_append1 (P := Try.prog) 35 35 i0 (.int .i64 0) Try.underlying35 hi hz0 hz1 hz2 rfl (r1.keep (X := fun _ => False) (Keep.of_below KB.out) (fun _ _ h => h)) (.int .i64 x) rfl (by unfold maxLen; omega) (by omega)
        have R4 := Lib.hid (And.intro r4 (And.intro hg4 (And.intro k4 (And.intro ho1 (hb.trans (KB.out.mono hb.size))))))
        clear r4 hg4 k4 r1 ho1 hb
        go_wp2_with (first
          | (at_builtin; refine wpl_append rfl _ _ 35 rfl rfl rfl hrunA ?_)
                  | (refine wpl_loadH rfl (.tmp 17) rfl wr.heap.size 1 rfl hh LD1 ?_) | (refine wpl_loadH rfl (.tmp 3) rfl G 0 rfl h LD2 ?_))
        go_roundg (L.length - (k + 1))
        case measure => rw [HG.out]; omega
        case rel =>
          obtain ⟨r4, hg4, k4, ho1, hb⟩ := R4.out
          refine ⟨k + 1, _, hlt, rfl, rfl, rfl, hb.trans (k4.below hb.size (fun k hk => ho1 k hk)), some g', ?_, ?_⟩
          · rw [hsn.out, if_pos trivial, List.length_append]
            have e : i64s (saidBy (L.take k) h ++ [x]) = i64s (saidBy (L.take k) h) ++ [.int .i64 x] := by simp [i64s]
            rw [e]; exact r4
          · intro g hg
            cases hg
            rcases hg4 with h1 | h1
            · exact ho1 _ h1
            · exact Nat.le_trans hb.size h1
      | false =>
        go_wp2_with (first
                  | (refine wpl_loadH rfl (.tmp 17) rfl wr.heap.size 1 rfl hh LD1 ?_) | (refine wpl_loadH rfl (.tmp 3) rfl G 0 rfl h LD2 ?_))
        go_roundg (L.length - (k + 1))
        case measure => rw [HG.out]; omega
        case rel =>
          obtain ⟨hb, o1, r1, ho1⟩ := HM.out
          exact ⟨k + 1, _, hlt, rfl, rfl, rfl, hb.trans (KB.out.mono hb.size), o1, by rw [hsn.out, if_neg (by decide)]; exact r1.keep (X := fun _ => False) (Keep.of_below KB.out) (fun _ _ h => h), ho1⟩
    · obtain rfl : k = L.length := by omega
      obtain ⟨hb, o', r1, r2⟩ := HM.out
      rw [List.take_length] at r1
      have R := Lib.hid (And.intro hb (And.intro r1 r2))
      clear hb r1 r2
      go_wp2
      go_ret
      subst hgw
      exact ⟨_, o', rfl, R.out.2.1, fun g hg => Nat.le_trans K0.out.size (R.out.2.2 g hg), K0.out.trans (R.out.1.mono K0.out.size)⟩
set_option maxHeartbeats 3200000 in
theorem qsums (p : Nat) (L : VL) (o : Option Nat) (w : World) (hQ : QAt w p L o) (hl : L.length ≤ 10000) (hok : VL.ok L) :
    Calls Try.prog 15 #[.pointer (some ⟨p, 0, none⟩)] w fun e w' => ∃ v o', e = .returned v ∧ RowV w' 26 32 v (once (L.map Prod.snd)).length (hcat (once (L.map Prod.snd))) o' ∧ (∀ g, o' = some g → w.heap.size ≤ g) ∧ Below w.heap.size w w' := by
  obtain ⟨id, v, h1, h2, n1⟩ := hQ
  have c32 := h1.cell 32
  rw [qcs_32] at c32
  have hpl := h1.lt
  obtain ⟨q, c, rfl, hlc, -, -⟩ := h2.form
  have H2 := Lib.hid h2
  have HO := Lib.hid hok
  have LDI := hashInfo
  have VI := voteInfo
  clear h1 h2 n1 hok
  go_enter Try.func15, Try.ntmps15
  go_wp2
  go_loopg [3, 14] L.length (fun gh l i wx => ∃ (k : Nat) (v' : Value), k ≤ L.length ∧ i = .int .i64 (k : Int) ∧ gh = L.length - k ∧ l = v' ∧ Hid (Below w.heap.size w wx ∧ ∃ o', RowV wx 26 32 v' (once ((L.take k).map Prod.snd)).length (hcat (once ((L.take k).map Prod.snd))) o' ∧ ∀ g, o' = some g → w.heap.size ≤ g))
  case atStart => exact ⟨0, _, Nat.zero_le _, rfl, rfl, rfl, Below.refl _ _, none, RowV.nil _ _ _, fun g hg => by cases hg⟩
  case round =>
    obtain ⟨k, v', hk, rfl, hg, rfl, HM⟩ := hrel
    have HG := Lib.hid hg
    clear hg
    by_cases hlt : k < L.length
    · obtain ⟨g, cap, _, e1, hgl, hr⟩ := row_vote (H2.out.keep (X := fun _ => False) (Keep.of_below HM.out.1) (fun _ _ h => h)) k hlt
      cases e1
      have htk := Lib.hid (take_getD L k (0, 0) hlt)
      have hw2 := vote_wf HO.out hlt
      generalize L.getD k (0, 0) = ek at *
      have hst := storeVote ek wr
      have BH := Lib.hid (Blk.new wr (vote1 ek).toArray 54)
      have KB := Lib.hid ((Below.refl wr.heap.size wr).alloc (Nat.le_refl _) (.cells (vote1 ek).toArray 54))
      go_upto_region 5 with (refine wpList_load_mid rfl 54 (.tmp 17) rfl g (k * 33) rfl (vote1 ek) _ hr Try.underlying54 rfl VI ?_)
      generalize wr.alloc (.cells (vote1 ek).toArray 54) = wB at *
      generalize hgB : wr.heap.size = GB at *
      have K3 := Lib.hid (HM.out.1.trans (KB.out.mono (by rw [← hgB]; exact HM.out.1.size)))
      have c32' := (K3.out.cell (p := ⟨p, 32, none⟩) hpl).trans c32
      obtain ⟨x, hh⟩ := ek
      have HX1 := BH
      have hkc : k ≤ c := by omega
      clear hst hr
      go_wp2
      go_loopg [6, 26] k (fun gh f i wx => ∃ (j : Nat) (b : Bool), j ≤ k ∧ f = .bool b ∧ i = .int .i64 (j : Int) ∧ gh = k - j ∧ Hid (Below wB.heap.size wB wx ∧ b = !decide (hh ∈ (L.take j).map Prod.snd)))
      case atStart => exact ⟨0, true, Nat.zero_le _, rfl, rfl, rfl, Below.refl _ _, by simp⟩
      case round =>
        obtain ⟨j, b, hj, rfl, rfl, hg, HJ⟩ := hrel
        have HG2 := Lib.hid hg
        clear hg
        by_cases hjk : j < k
        · have hjl : j < L.length := by omega
          obtain ⟨g', cap', e0, e1, hgl', hr⟩ := row_vote (H2.out.keep (X := fun _ => False) (Keep.of_below (K3.out.trans (HJ.out.1.mono K3.out.size))) (fun _ _ h => h)) j hjl
          cases e1
          have htj := Lib.hid (take_getD L j (0, 0) hjl)
          have hw3 := vote_wf HO.out hjl
          generalize L.getD j (0, 0) = ej at *
          have hst := storeVote ej wr
          have BJ := Lib.hid (Blk.new wr (vote1 ej).toArray 54)
          have KJ := Lib.hid ((Below.refl wr.heap.size wr).alloc (Nat.le_refl _) (.cells (vote1 ej).toArray 54))
          have hdec := Lib.hid (show (decide (hh ∈ (L.take (j + 1)).map Prod.snd)) = (decide (hh ∈ (L.take j).map Prod.snd) || hh == ej.2) from by
            rw [htj.out, List.map_append, Bool.eq_iff_iff]; simp)
          have LD1 := Lib.hid (vote_hash (HX1.out.beyond HJ.out.1))
          go_upto_region 9 with (refine wpList_load_mid rfl 54 (.tmp 28) rfl g (j * 33) rfl (vote1 ej) _ hr Try.underlying54 rfl VI ?_)
          have LD1 := vote_hash ((HX1.out.beyond HJ.out.1).beyond KJ.out)
          generalize wr.alloc (.cells (vote1 ej).toArray 54) = wJ at *
          generalize hgJ : wr.heap.size = GJ at *
          have LD2 := vote_hash BJ.out
          obtain ⟨y, hy⟩ := ej
          have hne := fun w' => hneq hh hy hw2 hw3 w'
          have K4 := Lib.hid (HJ.out.1.trans (KJ.out.mono (by rw [← hgJ]; exact HJ.out.1.size)))
          clear hst hr
          cases b with
          | true =>
            go_wp2_with (first | (refine wpl_loadHg (by rfl) (.tmp 32) rfl GB 1 rfl hh LD1 ?_) | (refine wpl_loadHg (by rfl) (.tmp 34) rfl GJ 1 rfl hy LD2 ?_))
            go_roundg (k - (j + 1))
            case measure => rw [HG2.out]; omega
            case rel =>
              refine ⟨j + 1, _, hjk, rfl, rfl, rfl, K4.out, ?_⟩
              have h1 := HJ.out.2
              rw [hdec.out]
              revert h1
              cases decide (hh ∈ (L.take j).map Prod.snd) <;> simp [bne]
          | false =>
            go_wp2
            go_roundg (k - (j + 1))
            case measure => rw [HG2.out]; omega
            case rel =>
              refine ⟨j + 1, _, hjk, rfl, rfl, rfl, K4.out, ?_⟩
              have h1 := HJ.out.2
              rw [hdec.out]
              revert h1
              cases decide (hh ∈ (L.take j).map Prod.snd) <;> simp
        · obtain rfl : j = k := by omega
          have hbw := K3.out.trans (HJ.out.1.mono K3.out.size)
          obtain ⟨_, o1, r1, ho1⟩ := HM.out
          obtain ⟨M, hM⟩ : ∃ M, M = once ((L.take j).map Prod.snd) := ⟨_, rfl⟩
          have hMl : M.length ≤ 10000 := by
            rw [hM]; exact Nat.le_trans (once_len _) (by simp; omega)
          have hb := HJ.out.2
          rw [show decide (hh ∈ (L.take j).map Prod.snd) = decide (hh ∈ M) from by rw [hM]; exact decide_eq_decide.2 (once_mem _ _).symm] at hb
          have hMn := Lib.hid (show once ((L.take (j + 1)).map Prod.snd) = if hh ∈ M then M else M ++ [hh] from by rw [htk.out, List.map_append, List.map_cons, List.map_nil, once_snoc, ← hM])
          rw [← hM] at r1
          have r1 := r1.keep (X := fun _ => False) (Keep.of_below (by rw [hgB]; exact KB.out.trans (HJ.out.1.mono (by rw [← hgB]; exact KB.out.size)))) (fun _ _ h => h)
          have LD1 := vote_hash (HX1.out.beyond HJ.out.1)
          by_cases hmm : hh ∈ M
          · have hb : b = false := by rw [hb]; simp [hmm]
            subst hb
            have hMn2 := Lib.hid (hMn.out.trans (if_pos hmm))
            have R1 := Lib.hid (And.intro hbw (And.intro r1 ho1))
            clear hmm hbw r1 ho1 hb hM LD1
            go_wp2
            go_roundg (L.length - (j + 1))
            case measure => rw [HG.out]; omega
            case rel =>
              obtain ⟨hbw, r1, ho1⟩ := R1.out
              exact ⟨j + 1, _, hlt, rfl, rfl, rfl, hbw, o1, by rw [hMn2.out]; exact r1, ho1⟩
          · have hb : b = true := by rw [hb]; simp [hmm]
            subst hb
            have hMn2 := Lib.hid (hMn.out.trans (if_neg hmm))
            have hbs := buildHash hh wr
            obtain ⟨i0, hi, hz0, hz1, hz2⟩ := info_parts hashinfo
            have bn := Blk.new wr (hcs hh) 26
            have r2 := r1.keep (X := fun _ => False) ((Keep.refl _ wr).alloc (.cells (hcs hh) 26)) (fun _ _ h => h)
            obtain ⟨v4, w4, g4, hrun, r4, hg4, k4⟩ := rowV_append (P := Try.prog) 33 33 i0 (hv 0) Try.underlying33 hi hz0 hz1 hz2 (by rw [show (hv 0).cells = hcs 0 from rfl, hcs_size]) (by decide) r2 (a := ⟨wr.heap.size, 0, none⟩) (m := 1) (c := 1) (news := hls hh) (by rw [hls_length]) (fun j u hu => by rw [Addr.add_lit]; exact blk_range bn j u hu) (fun u hu => (Array.all_eq_true_iff_forall_mem.1 (hcs_one hh)) u (by simpa [hcs] using hu)) (by decide) (by unfold maxLen; omega) (by omega)
            have R4 := Lib.hid (And.intro r4 (And.intro hg4 (And.intro k4 (And.intro hbw ho1))))
            clear r4 hg4 k4 r2 bn r1 ho1 hbw hmm hb hM
            go_wp2_with (first | (at_builtin; refine wpl_append rfl _ _ 33 rfl rfl rfl hrun ?_) | (refine wpl_buildSlice (ps := #[(0, hv hh)]) rfl 33 1 #[(0, .tmp 42)] rfl (by simp [Act.put, Act.eval]) hbs ?_) | (refine wpl_loadH rfl (.tmp 41) rfl GB 1 rfl hh LD1 ?_))
            go_roundg (L.length - (j + 1))
            case measure => rw [HG.out]; omega
            case rel =>
              obtain ⟨r4, hg4, k4, hbw, ho1⟩ := R4.out
              have bw3 := hbw.alloc hbw.size (.cells (hcs hh) 26)
              refine ⟨j + 1, _, hlt, rfl, rfl, rfl, bw3.trans (k4.below bw3.size (fun k hk => ho1 k hk)), some g4, ?_, ?_⟩
              · rw [hMn2.out, hcat_append, List.length_append, show hcat [hh] = hls hh from by simp [hcat]]
                exact r4
              · intro g hg
                cases hg
                rcases hg4 with h1 | h1
                · exact ho1 _ h1
                · exact Nat.le_trans bw3.size h1
    · obtain rfl : k = L.length := by omega
      obtain ⟨hb, o', r1, r2⟩ := HM.out
      rw [List.take_length] at r1
      have R := Lib.hid (And.intro hb (And.intro r1 r2))
      clear hb r1 r2
      go_wp2
      go_ret
      exact ⟨_, o', rfl, R.out.2.1, R.out.2.2, R.out.1⟩
end Go.Proofs.Ytgedpgdefafofaa
