import Derived.Test.YtbjbjgfjaopibaaDoorCr16
import Derived.Test.YtbjbjgfjaopibaaDoorCr15
section
/- JournalTwice: the law's walk. -/
namespace Go.Proofs.YtbjbjgfjaopibaaDoor
open Go Go.RowKit
set_option linter.unusedSimpArgs false
set_option linter.unusedVariables false
set_option maxRecDepth 100000

theorem fit_of {w : World} {X : BatchD} (hX : BatOk w X) (hc : CanB (batX X)) : Fit (batX X) := ⟨hc, fun q hq => by
  obtain ⟨i, hi, rfl⟩ := List.mem_map.1 hq
  obtain ⟨_, _, _, _, _, hok⟩ := hX.1.2.2.2 i (List.mem_range.1 hi)
  exact hok.2.1.range⟩
/-- a journal says what its tape's batches come to -/
def JLog (s : JS) : Prop := (∃ DB : List BatD, (∀ x ∈ DB, Fit x) ∧ s.xs = DB.flatMap frmX ∧ s.l = doAll [] DB ∧ s.n = DB.length) ∧ s.sy = s.xs.length
theorem opn_free {xs : List Int} (hb : Byt xs) (ro : Int) : (opnS xs xs.length ro (-1)).1 = 0 ∧ (opnS xs xs.length ro (-1)).2.fu = -1 ∧ (opnS xs xs.length ro (-1)).2.ro = ro ∧ (opnS xs xs.length ro (-1)).2.hd = false ∧ (opnS xs xs.length ro (-1)).2.xs.length ≤ xs.length ∧ JLog (opnS xs xs.length ro (-1)).2 := by
  obtain ⟨DB, r, hfit, hr, hno, rfl⟩ := opens_split hb
  have hop := opens_eq hfit hr hno
  have e1 : ∀ sy : Int, opnS (DB.flatMap frmX ++ r) sy ro (-1) = (0, ⟨DB.flatMap frmX, if (DB.flatMap frmX).length = (DB.flatMap frmX ++ r).length then sy else ((DB.flatMap frmX).length : Int), ro, if (DB.flatMap frmX).length = (DB.flatMap frmX ++ r).length then -1 else burn (-1), doAll [] DB, DB.length, false⟩) := fun sy => by
    unfold opnS
    rw [hop, if_neg (fun f => absurd f.2 (by decide)), List.take_left' rfl]
  rw [e1]
  refine ⟨rfl, ?_, rfl, rfl, by show (DB.flatMap frmX).length ≤ _; rw [List.length_append]; omega, ⟨DB, hfit, rfl, rfl, rfl⟩, ?_⟩
  · show (if _ then (-1 : Int) else burn (-1)) = -1
    split <;> rfl
  · show (if _ then _ else _) = ((DB.flatMap frmX).length : Int)
    split
    · next h => rw [h]
    · rfl
theorem com_log {s : JS} {x : BatD} (h1 : s.fu = -1) (h2 : s.hd = false) (h3 : (s.xs.length : Int) + 1048588 ≤ s.ro) (hL : JLog s) (hx : CanB x → Fit x) : JLog (comS s x).2 := by
  unfold comS
  by_cases hc : CanB x
  · have hl : (frmX x).length ≤ 1048588 := by have := hc.len; unfold frmX; rw [frmB_len]; omega
    have ha : appE s.xs.length (frmX x).length s.ro s.fu = 0 := by unfold appE; rw [h1, if_neg (by decide), if_neg (by omega)]
    have hb : burnE (burn s.fu) = 0 := by rw [h1]; rfl
    rw [if_neg (fun f => f hc), if_neg (by rw [h2]; decide), if_neg (fun f => f ha), if_neg (fun f => f hb)]
    obtain ⟨⟨DB, hf, e1, e2, e3⟩, e4⟩ := hL
    refine ⟨⟨DB ++ [x], fun y hy => ?_, ?_, ?_, ?_⟩, rfl⟩
    · rcases List.mem_append.1 hy with h | h
      · exact hf y h
      · rw [List.mem_singleton.1 h]; exact hx hc
    · show s.xs ++ frmX x = _
      rw [List.flatMap_append, List.flatMap_singleton, e1]
    · show doK s.l x = _
      rw [doAll_snoc, e2]
    · show s.n + 1 = _
      rw [List.length_append, e3]; rfl
  · rw [if_pos hc]; exact hL
theorem opn_log {s : JS} (h1 : s.fu = -1) (h2 : s.hd = false) (hL : JLog s) : opnS s.xs s.sy s.ro s.fu = (0, s) := by
  obtain ⟨xs, sy, ro, fu, l, n, hd⟩ := s
  obtain ⟨⟨DB, hf, e1, e2, e3⟩, e4⟩ := hL
  obtain rfl : fu = -1 := h1
  obtain rfl : hd = false := h2
  have h := opens_eq (xs := DB) (r := []) hf Byt.nil nil_none
  rw [List.append_nil] at h
  change xs = _ at e1
  change l = _ at e2
  change n = _ at e3
  show opnS xs sy ro (-1) = _
  unfold opnS
  rw [e1, h, if_neg (fun f => absurd f.2 (by decide)), if_pos rfl, if_pos rfl, e2, e3, List.take_length]
theorem com_ok {s : JS} {x : BatD} (h1 : s.fu = -1) (h2 : s.hd = false) (h3 : (s.xs.length : Int) + 1048588 ≤ s.ro) (hc : CanB x) : (comS s x).1 = 0 ∧ (comS s x).2.n = s.n + 1 := by
  unfold comS
  have hl : (frmX x).length ≤ 1048588 := by have := hc.len; unfold frmX; rw [frmB_len]; omega
  have ha : appE s.xs.length (frmX x).length s.ro s.fu = 0 := by unfold appE; rw [h1, if_neg (by decide), if_neg (by omega)]
  have hb : burnE (burn s.fu) = 0 := by rw [h1]; rfl
  rw [if_neg (fun f => f hc), if_neg (by rw [h2]; decide), if_neg (fun f => f ha), if_neg (fun f => f hb)]
  exact ⟨rfl, rfl⟩
theorem JW.keep {W w w' : World} {j b p : Nat} {o : Option Nat} {s : JS} (h : JW W w j b p o s) (ht : TapeAt w' p s.xs s.sy s.ro s.fu o) (hk : Keep (foot p o) w w') : JW W w' j b p o s :=
  ⟨h.bel.trans (hk.below h.bel.size (fun k hk => (h.ft k hk).1)), h.glob, h.ok, ht, h.jat.keep hk (fun hf => (h.ft _ hf).2.1 rfl) (fun hf => (h.ft _ hf).2.2 rfl) (fun g hg _ hf => hg.2.1 hf), h.own, h.ft⟩
set_option maxHeartbeats 12800000 in
theorem twice_walk (q : Option Addr) (len cap : Nat) (zs : List Int) (a : Option Addr) (n c : Nat) (X : Nat → BatchD) (W : World) (G : Glob W) (hz : min (len : Int) 5000 = (zs.length : Int)) (hlen : len ≤ 9223372036854775807) (hcap : zs.length ≤ cap) (hy : Lib.BytesIn W q zs.length zs) (hb : Byt zs) (hX : ElemsIn W a n 2 batCs BatOk X) (hn : n ≤ 140737488351232) :
    Calls Tryd.prog 6 #[.slice q len cap, .slice a n c] W fun e w' => e = .returned (.bool true) ∧ Below W.heap.size W w' := by
  have hz5 : zs.length ≤ 5000 := by omega
  have PN := Lib.hid (tof q cap zs 16777216 W hy (by decide) (by decide) (by omega))
  have HX := Lib.hid (And.intro hX (Below.refl W.heap.size W))
  have HB := Lib.hid (And.intro G hb)
  clear hX G hb hy
  obtain ⟨zl, hzl⟩ : ∃ zl, zl = zs.length := ⟨_, rfl⟩
  rw [← hzl] at hz hz5 hcap PN
  have HZ := Lib.hid hzl
  clear hzl
  go_enter Tryd.func6, Tryd.ntmps6
  go_upto_region 2 with fail
  clear hz
  go_wp2_with fail
  refine PN.out.mono ?_
  rintro e w1 ⟨p, o, rfl, hT, hp, ho, hb1⟩
  rw [HZ.out] at hT
  have hTW : TW W w1 p o zs zs.length 16777216 (-1) := ⟨hb1, HB.out.1, HB.out.2, by rw [← HZ.out]; omega, by decide, by decide, by decide, by decide, by omega, Int.le_refl _, hT, fun k hk => by
    rcases hk with rfl | hk
    · exact hp
    · exact ho k hk⟩
  have PO := jw_open hTW
  obtain ⟨h0, hF⟩ := opn_free HB.out.2 16777216
  rw [h0] at PO
  generalize hs0 : (opnS zs zs.length 16777216 (-1)).2 = s0 at *
  have PO := Lib.hid PO
  have HF := Lib.hid hF
  clear hT hp ho hb1 hTW h0 hF hs0
  go_wp2_with fail
  refine PO.out.mono ?_
  rintro e w2 ⟨k2, ⟨h150, _⟩ | ⟨_, j, b, rfl, hj, hb, hJ, hW⟩⟩
  · exact absurd h150 (by decide)
  have HW := Lib.hid hW
  clear k2 hj hb hJ hW
  go_wp2
  go_loopg [33] n (fun gh i wx => ∃ (k : Nat) (o : Option Nat) (s : JS), k ≤ n ∧ i = .int .i64 (k : Int) ∧ gh = n - k ∧ Hid (JW W wx j b p o s ∧ s.fu = -1 ∧ s.ro = 16777216 ∧ s.hd = false ∧ s.xs.length ≤ 5000 + min k 10 * 1048588 ∧ JLog s))
  case atStart => exact ⟨0, o, s0, Nat.zero_le _, rfl, rfl, HW.out, HF.out.1, HF.out.2.1, HF.out.2.2.1, Nat.le_trans (HZ.out ▸ HF.out.2.2.2.1) (Nat.le_trans hz5 (Nat.le_add_right _ _)), HF.out.2.2.2.2⟩
  case round =>
    obtain ⟨k, o, s, hk, rfl, hg, HK⟩ := hrel
    have HG := Lib.hid hg
    clear hg
    by_cases hlt : k < n
    rotate_left
    · obtain rfl : k = n := by omega
      have PB := Lib.hid (tbytes p s.xs s.sy s.ro s.fu o wr HK.out.1.tape (by have := HK.out.1.ok.len; omega))
      obtain ⟨xl, hxl⟩ : ∃ xl, xl = s.xs.length := ⟨_, rfl⟩
      rw [← hxl] at PB
      have HXL := Lib.hid hxl
      clear hxl
      go_wp2_with fail
      refine PB.out.mono ?_
      rintro e w7 ⟨q7, c7, o7, rfl, hR7, ho7, hb7⟩
      have HJ7 := HK.out.1.more hb7
      have PO := jw_open HJ7.tw
      rw [opn_log HK.out.2.1 HK.out.2.2.2.1 HK.out.2.2.2.2.2] at PO
      have PO := Lib.hid PO
      have H7 := Lib.hid (And.intro HJ7 (And.intro hR7 ho7))
      clear HJ7 hR7 ho7 hb7 PB
      go_wp2_with fail
      refine PO.out.mono ?_
      rintro e w8 ⟨k8, ⟨h150, _⟩ | ⟨_, j2, b2, rfl, hj2, hb2, _, hW2⟩⟩
      · exact absurd h150 (by decide)
      have HJ8 := H7.out.1.keep hW2.tape k8
      have hR8 : Row w8 5 (.slice q7 s.xs.length c7) s.xs o7 := by
        rw [← HXL.out]
        exact H7.out.2.1.keep k8 (fun g hg hf => by have := H7.out.2.2 g hg; have := HK.out.1.tape.lt g hf; omega)
      have hjl := H7.out.1.jat.lt
      have hbl2 : Blk w8 j2 #[.pointer (some ⟨p, 0, none⟩), .map (some b2), .int .i64 (s.n : Int), .bool s.hd] 30 := hW2.jat.1
      have hne2 : j2 ≠ j ∧ j2 ≠ b ∧ ∀ g, foot p o g → j2 ≠ g := ⟨by omega, by omega, fun g hg => by have := H7.out.1.tape.lt g hg; omega⟩
      have PT := Lib.hid (jw_contents HJ8)
      have H8 := Lib.hid (And.intro HJ8 (And.intro hW2 (And.intro hR8 (And.intro hbl2 hne2))))
      clear HJ8 hW2 hR8 hbl2 hne2 hj2 hb2 hjl k8 PO
      go_wp2_with fail
      refine PT.out.mono ?_
      rintro e w9 ⟨hb9, q9, c9, X9, rfl, hL9, hX9, _⟩
      have PT2 := Lib.hid (jw_contents (H8.out.2.1.more hb9))
      have H9 := Lib.hid (And.intro hL9 (And.intro hX9 hb9))
      clear hL9 hX9 hb9 PT
      generalize hn9 : X9.length = n9 at *
      have HN9 := Lib.hid hn9
      clear hn9
      go_wp2_with fail
      refine PT2.out.mono ?_
      rintro e w10 ⟨hb10, q10, c10, X10, rfl, hL10, hX10, _⟩
      have hL9 := H9.out.1.more hb10
      rw [← HN9.out] at hL9
      have hll : s.l.length ≤ 1000000000000 := by have h1 := HK.out.1.ok.ll; have h2 := HK.out.1.ok.len; omega
      have PS := psame hL9 hL10 (by have h1 := congrArg List.length H9.out.2.1; rw [List.length_map] at h1; rw [h1]; exact hll) (by have h1 := congrArg List.length hX10; rw [List.length_map] at h1; rw [h1]; exact hll)
      rw [HN9.out] at PS
      have H10 := Lib.hid (And.intro (show X9.map pairX = X10.map pairX from H9.out.2.1.trans hX10.symm) (H9.out.2.2.trans (hb10.mono H9.out.2.2.size)))
      have PS := Lib.hid PS
      clear hll hL9 hL10 hX10 hb10 PT2
      generalize X10.length = n10 at *
      go_wp2_with fail
      refine PS.out.mono ?_
      rintro e w11 ⟨bb, rfl, hbb, hb11⟩
      obtain rfl : bb = true := hbb H10.out.1
      have hb811 := H10.out.2.trans (hb11.mono H10.out.2.size)
      have HJ11 := H8.out.1.more hb811
      have hR11 : Row w11 5 (.slice q7 s.xs.length c7) s.xs o7 := H8.out.2.2.1.keep (Keep.of_below (X := fun _ => False) hb811) (fun _ _ h => h)
      have hbl := H8.out.2.2.2.1.beyond hb811
      have PK2 := Lib.hid (jbatches j2 ⟨p, 0, none⟩ _ _ _ w11 hbl)
      have PK1 := Lib.hid (jbatches j ⟨p, 0, none⟩ _ _ _ w11 HJ11.jat.1)
      have PB := tbytes p s.xs s.sy s.ro s.fu o w11 HJ11.tape (by have := HJ11.ok.len; omega)
      rw [← HXL.out] at PB
      have PB := Lib.hid PB
      have H11 := Lib.hid (And.intro HJ11 (And.intro hR11 hbl))
      clear hb811 HJ11 hR11 hbl hbb hb11 PS
      go_wp2_with fail
      refine PK2.out.mono ?_
      rintro e w11' ⟨rfl, hw⟩
      subst w11'
      go_wp2_with fail
      refine PK1.out.mono ?_
      rintro e w11' ⟨rfl, hw⟩
      subst w11'
      have hnn : ((s.n : Int) == (s.n : Int)) = true := beq_self_eq_true _
      go_wp2_with fail
      refine PB.out.mono ?_
      rintro e w12 ⟨q12, c12, o12, rfl, hR12, ho12, hb12⟩
      have HJ12 := H11.out.1.more hb12
      have hR7' : Row w12 5 (.slice q7 s.xs.length c7) s.xs o7 := H11.out.2.1.keep (Keep.of_below (X := fun _ => False) hb12) (fun _ _ h => h)
      have hbl := H11.out.2.2.beyond hb12
      rw [← HXL.out] at hR7'
      have PE := Tryd.bytes_Equal_all q12 q7 xl c12 xl c7 s.xs s.xs w12 HXL.out.symm HXL.out.symm (by obtain ⟨_, _, e2, hy2, _⟩ := hR12.form; cases e2; rw [← HXL.out] at hy2; exact hy2) (by obtain ⟨_, _, e2, hy2, _⟩ := hR7'.form; cases e2; rw [← HXL.out] at hy2; exact hy2)
      rw [beq_self_eq_true] at PE
      have PE := Lib.hid PE
      have PY := tsynced p s.xs s.sy s.ro s.fu o w12 HJ12.tape
      have hsy : s.sy = (xl : Int) := by rw [HXL.out]; exact HK.out.2.2.2.2.2.2
      rw [hsy] at PY
      have PY := Lib.hid PY
      have PC := jw_commit HJ12 (bat0_ok _) ((bat0_ok W).old)
      have hroom : (s.xs.length : Int) + 1048588 ≤ s.ro := by
        have h2 := HK.out.2.2.2.2.1
        have h3 : min k 10 * 1048588 ≤ 10 * 1048588 := Nat.mul_le_mul_right _ (Nat.min_le_right _ _)
        have h4 := HK.out.2.2.1
        have h5 : s.xs.length ≤ 10490880 := Nat.le_trans h2 (Nat.add_le_add_left h3 _)
        clear h2 h3
        rw [h4]
        generalize s.xs.length = sx at *
        omega
      obtain ⟨hc1, hc2⟩ := com_ok (x := batX bat0) HK.out.2.1 HK.out.2.2.2.1 hroom bat0_can
      rw [hc1] at PC
      generalize hs2 : (comS s (batX bat0)).2 = s2 at *
      change Calls Tryd.prog 9 #[.pointer (some ⟨j, 0, none⟩), .agg #[.slice none 0 0, .slice none 0 0]] w12 _ at PC
      have PC := Lib.hid PC
      have H12 := Lib.hid (And.intro hbl (And.intro hc2 HJ12.tape.lt))
      clear HJ12 hR7' hbl hsy hroom hc1 hc2 hs2 hR12 ho12 hb12 PB
      go_wp2_with fail
      refine PE.out.mono ?_
      rintro e w12' ⟨rfl, hw⟩
      subst w12'
      have hxx : ((xl : Int) == (xl : Int)) = true := beq_self_eq_true _
      go_wp2_with fail
      refine PY.out.mono ?_
      rintro e w12' ⟨rfl, hw⟩
      subst w12'
      go_wp2_with fail
      refine PC.out.mono ?_
      rintro e w14 ⟨o14, rfl, HJ14, hk14, _⟩
      have PK1 := jbatches j ⟨p, 0, none⟩ _ _ _ w14 HJ14.jat.1
      rw [H12.out.2.1] at PK1
      have PK1 := Lib.hid PK1
      have hbl := hk14.blk H12.out.1 (fun hf => by
        rcases hf with hf | hf | hf
        · exact H8.out.2.2.2.2.2.2 _ hf rfl
        · exact H8.out.2.2.2.2.1 hf
        · exact H8.out.2.2.2.2.2.1 hf)
      have PK2 := Lib.hid (jbatches j2 ⟨p, 0, none⟩ _ _ _ w14 hbl)
      have HF14 := Lib.hid HJ14.bel
      clear HJ14 hk14 hbl PC
      have hn1 : (((s.n + 1 : Nat) : Int) == (s.n : Int) + 1) = true := by rw [beq_iff_eq]; omega
      have hnb : s.n ≤ 16777216 := Nat.le_trans HK.out.1.ok.nn HK.out.1.ok.len
      go_wp2_with fail
      refine PK1.out.mono ?_
      rintro e w14' ⟨rfl, hw⟩
      subst w14'
      go_wp2_with fail
      refine PK2.out.mono ?_
      rintro e w14' ⟨rfl, hw⟩
      subst w14'
      go_wp2
      go_ret
      exact ⟨rfl, HF14.out⟩
    obtain ⟨b', o', rfl, hcl, hca, hok⟩ := HX.out.1 k hlt
    have hbo := hok.old
    obtain ⟨IC, hIC⟩ : ∃ IC, IC = batCs (X k) := ⟨_, rfl⟩
    rw [← hIC] at hcl hca
    have hone1 : IC.toArray.all (·.oneCell') = true := by rw [hIC]; exact arr_oneJ (bat_one _)
    have HIC := Lib.hid (And.intro hIC (And.intro hok hbo))
    clear hIC hok hbo
    have hsa1 : IC.toArray.size = 2 := by rw [List.size_toArray]; exact hcl
    have hr1 := cells_rangeJ (hca.below (HX.out.2.trans (HK.out.1.bel.mono HX.out.2.size)))
    have bz := Blk.new wr #[.slice none 0 0, .slice none 0 0] 25
    have kz := (Below.refl wr.heap.size wr).alloc (Nat.le_refl _) (.cells #[.slice none 0 0, .slice none 0 0] 25)
    have hinf1 : (Tryd.prog.info? 25).map (·.size) = some IC.toArray.size := by rw [hsa1]; kernel_rfl
    have hinf1' : (Tryd.prog.info? 25).map (·.size) = some IC.length := by rw [hcl]; kernel_rfl
    have hsz1 : (#[.slice none 0 0, .slice none 0 0] : Array Value).size = IC.toArray.size := by rw [hsa1]; rfl
    have bx := bz.setAll IC.toArray hsz1
    have kx := below_setCells (B := wr.heap.size) (g := wr.heap.size) (Nat.le_refl _) IC.toArray.toList 0 (wr.alloc (.cells #[.slice none 0 0, .slice none 0 0] 25)) kz
    clear hca kz hcl hsa1
    go_upto_region 11 with (first | (refine wpList_load_mid rfl 25 (.tmp 36) rfl b' (o' + k * 2) rfl IC _ hr1 Tryd.underlying25 rfl hinf1' ?_) | (refine wpl_store rfl 25 (.tmp 9) (.tmp 37) rfl rfl rfl bz hsz1 hinf1 hone1 ?_))
    rw [List.toList_toArray] at kx bx
    change Blk ((wr.alloc (.cells #[.slice none 0 0, .slice none 0 0] 25)).setCells wr.heap.size 0 IC) wr.heap.size IC.toArray 25 at bx
    clear bz hr1
    generalize (wr.alloc (.cells #[.slice none 0 0, .slice none 0 0] 25)).setCells wr.heap.size 0 IC = w4 at *
    generalize hgx : wr.heap.size = gx at *
    have hb4 : Below wr.heap.size wr w4 := by rw [hgx]; exact kx
    have HJ4 := Lib.hid (HK.out.1.more hb4)
    have r1 := cells_rangeJ (w := w4) (b := gx) (o := 0) (cs := IC) (fun t ht => by rw [Nat.zero_add, bx.cell, List.getElem?_toArray])
    have HB4 := Lib.hid hb4
    clear hb4 kx bx
    have HXk := Lib.hid (HX.out.2.trans (HJ4.out.bel.mono HX.out.2.size))
    by_cases h8 : k < 10
    · have PC := jw_commit (X := X k) HJ4.out (HIC.out.2.1.below HXk.out) (HIC.out.2.2.mono fun g hg => by have := HX.out.2.size; omega)
      rw [← HIC.out.1] at PC
      have PC := Lib.hid PC
      have h8' : ((k : Int) < 10) := by omega
      go_wp2_with (first | (refine wpList_load_mid rfl 25 (.tmp 9) rfl gx 0 rfl IC _ r1 Tryd.underlying25 rfl hinf1' ?_))
      refine PC.out.mono ?_
      rintro e w5 ⟨o5, rfl, hJ5, _, _⟩
      have hroom : (s.xs.length : Int) + 1048588 ≤ s.ro := by
        have h2 := HK.out.2.2.2.2.1
        rw [Nat.min_eq_left (by omega)] at h2
        have := HK.out.2.2.1
        omega
      have hcf := com_free (x := batX (X k)) HK.out.2.1 HK.out.2.2.2.1 hroom
      have hcl := com_log (x := batX (X k)) HK.out.2.1 HK.out.2.2.2.1 hroom HK.out.2.2.2.2.2 (fit_of HIC.out.2.1)
      have H5 := Lib.hid (And.intro hJ5 (And.intro hcf hcl))
      clear hJ5 hcf PC r1 hcl hroom
      go_wp2
      go_roundg (n - (k + 1))
      case measure => rw [HG.out]; omega
      case rel =>
        have hlen : (comS s (batX (X k))).2.xs.length ≤ 5000 + min (k + 1) 10 * 1048588 := by
          have h1 := H5.out.2.1.2.2.2
          have h2 := HK.out.2.2.2.2.1
          have hm1 : min k 10 = k := Nat.min_eq_left (by omega)
          have hm2 : min (k + 1) 10 = k + 1 := Nat.min_eq_left (by omega)
          have hm3 : (k + 1) * 1048588 = k * 1048588 + 1048588 := Nat.succ_mul _ _
          rw [hm1] at h2
          rw [hm2, hm3]
          exact Nat.le_trans h1 (by rw [← Nat.add_assoc]; exact Nat.add_le_add_right h2 _)
        exact ⟨k + 1, o5, (comS s (batX (X k))).2, hlt, by go_num, rfl, H5.out.1, H5.out.2.1.1, H5.out.2.1.2.1.trans HK.out.2.2.1, H5.out.2.1.2.2.1, hlen, H5.out.2.2⟩
    · have h8' : ¬ ((k : Int) < 10) := by omega
      clear r1
      go_wp2
      go_roundg (n - (k + 1))
      case measure => rw [HG.out]; omega
      case rel =>
        have hlen : s.xs.length ≤ 5000 + min (k + 1) 10 * 1048588 := by
          have h2 := HK.out.2.2.2.2.1
          rw [Nat.min_eq_right (by omega)] at h2
          rw [Nat.min_eq_right (by omega)]
          exact h2
        exact ⟨k + 1, o, s, hlt, by go_num, rfl, HJ4.out, HK.out.2.1, HK.out.2.2.1, HK.out.2.2.2.1, hlen, HK.out.2.2.2.2.2⟩
theorem bytes_takeJ {w : World} {q : Option Addr} {n m : Nat} {xs : List Int} (h : Lib.BytesIn w q n xs) (hm : m ≤ n) (hx : xs.length = n) : Lib.BytesIn w q (xs.take m).length (xs.take m) := fun h0 => by
  rw [List.length_take] at h0 ⊢
  obtain ⟨b, o, e1, hc⟩ := h.at (by omega)
  refine ⟨b, o, e1, fun i hi => ?_⟩
  rw [hc i (by omega), List.getD_eq_getElem?_getD, List.getD_eq_getElem?_getD, List.getElem?_take_of_lt (by omega)]
theorem twice_full (q : Option Addr) (cap : Nat) (xs : List Int) (a : Option Addr) (n c : Nat) (X : Nat → BatchD) (W : World) (G : Glob W) (hy : Lib.BytesIn W q xs.length xs) (hl : xs.length ≤ 140737488351232) (hcap : xs.length ≤ cap) (hb : ∀ x ∈ xs, 0 ≤ x ∧ x ≤ 255) (hX : ElemsIn W a n 2 batCs BatOk X) (hn : n ≤ 140737488351232) :
    Calls Tryd.prog 6 #[.slice q xs.length cap, .slice a n c] W fun e w' => e = .returned (.bool true) ∧ Below W.heap.size W w' := by
  have e1 : (xs.take (min xs.length 5000)).length = min xs.length 5000 := by rw [List.length_take]; omega
  exact twice_walk q xs.length cap (xs.take (min xs.length 5000)) a n c X W G (by rw [e1]; omega) (by omega) (by rw [e1]; omega) (bytes_takeJ hy (by omega) rfl) (Byt.take hb _) hX hn
end Go.Proofs.YtbjbjgfjaopibaaDoor
end

section
/- slices.DeleteFunc over strings where something goes; journal.Keys of any prefix. -/
namespace Go.Proofs.YtbjbjgfjaopibaaDoor
open Go Go.RowKit Go.Maps
set_option linter.unusedSimpArgs false
set_option linter.unusedVariables false
set_option maxRecDepth 100000

section
variable {α : Type}
/-- what stands in the list while DeleteFunc walks: i kept, j looked at -/
structure DInv (P : α → Bool) (ss M : List α) (i j : Nat) : Prop where
  len : M.length = ss.length
  lt : i < j
  le : j ≤ ss.length
  head : M.take i = (ss.take j).filter (fun s => !P s)
  tail : M.drop j = ss.drop j
theorem DInv.idx {P : α → Bool} {ss M : List α} {i j : Nat} (h : DInv P ss M i j) : i = ((ss.take j).filter (fun s => !P s)).length := by
  rw [← h.head, List.length_take, h.len]
  have := h.lt; have := h.le
  omega
theorem DInv.start {P : α → Bool} {ss : List α} {a : Nat} (h : ss.findIdx? P = some a) : DInv P ss ss a (a + 1) := by
  obtain ⟨hl, h1, h2⟩ := List.findIdx?_eq_some_iff_getElem.1 h
  refine ⟨rfl, Nat.lt_succ_self _, hl, ?_, rfl⟩
  rw [← List.take_append_getElem hl, List.filter_append]
  have e1 : (ss.take a).filter (fun s => !P s) = ss.take a := List.filter_eq_self.2 fun x hx => by
    obtain ⟨i, hi, rfl⟩ := List.getElem_of_mem hx
    rw [List.length_take] at hi
    rw [List.getElem_take]
    simpa using h2 i (by omega)
  have e2 : [ss[a]].filter (fun s => !P s) = [] := by simp [h1]
  rw [e1, e2, List.append_nil]
theorem DInv.get {P : α → Bool} {ss M : List α} {i j : Nat} (h : DInv P ss M i j) (hj : j < ss.length) : M[j]? = some ss[j] := by
  have h1 : (M.drop j)[0]? = (ss.drop j)[0]? := by rw [h.tail]
  rw [List.getElem?_drop, List.getElem?_drop, Nat.add_zero, List.getElem?_eq_getElem hj] at h1
  exact h1
theorem drop_succ_of {P : α → Bool} {ss M : List α} {i j : Nat} (h : DInv P ss M i j) : M.drop (j + 1) = ss.drop (j + 1) := by
  rw [← List.drop_drop (i := 1) (j := j), ← List.drop_drop (i := 1) (j := j), h.tail]
theorem DInv.skip {P : α → Bool} {ss M : List α} {i j : Nat} (h : DInv P ss M i j) (hj : j < ss.length) (hp : P ss[j] = true) : DInv P ss M i (j + 1) := by
  refine ⟨h.len, Nat.lt_succ_of_lt h.lt, hj, ?_, drop_succ_of h⟩
  rw [h.head, ← List.take_append_getElem hj, List.filter_append]
  simp [hp]
theorem DInv.put {P : α → Bool} {ss M : List α} {i j : Nat} (h : DInv P ss M i j) (hj : j < ss.length) (hp : P ss[j] = false) : DInv P ss (M.set i ss[j]) (i + 1) (j + 1) := by
  have hi : i < M.length := by have := h.lt; rw [h.len]; omega
  refine ⟨by rw [List.length_set, h.len], Nat.succ_lt_succ h.lt, hj, ?_, ?_⟩
  · rw [← List.take_append_getElem hj, List.filter_append, ← h.head, ← List.take_append_getElem (l := M.set i ss[j]) (by rw [List.length_set]; exact hi), List.getElem_set_self, List.take_set_of_le (Nat.le_refl _)]
    simp [hp]
  · rw [List.drop_set_of_lt (by have := h.lt; omega)]
    exact drop_succ_of h
theorem DInv.fin {P : α → Bool} {ss M : List α} {i : Nat} (h : DInv P ss M i ss.length) : M.take i = ss.filter (fun s => !P s) ∧ i = (ss.filter (fun s => !P s)).length := by
  have h1 := h.head
  have h2 := h.idx
  rw [List.take_length] at h1 h2
  exact ⟨h1, h2⟩
end
section
variable {w : World} {e : TypeId} {k : Nat} {n cap g : Nat} {cs : List Value}
/-- several cells written -/
theorem RowV.sets : ∀ (us : List Value) (i : Nat) {w : World} {cs : List Value}, RowV w e k (.slice (some ⟨g, 0, none⟩) n cap) n cs (some g) → i + us.length ≤ n * k →
    ∃ cs', RowV (w.setCells g i us) e k (.slice (some ⟨g, 0, none⟩) n cap) n cs' (some g) ∧ cs'.take i = cs.take i ∧ Keep (fun q => q = g) w (w.setCells g i us)
  | [], i, w, cs, h, _ => ⟨cs, h, rfl, Keep.refl _ _⟩
  | u :: us, i, w, cs, h, hl => by
    rw [List.length_cons] at hl
    obtain ⟨cs', h1, h2, h3⟩ := RowV.sets us (i + 1) (h.set i u (by omega)) (by omega)
    have hi : i < cs.length := by have := h.1; omega
    refine ⟨cs', h1, ?_, ((Keep.refl _ w).set (X := fun q => q = g) (p := ⟨g, i, none⟩) (.inl rfl) u).trans h3⟩
    have e1 : cs'.take i = (cs'.take (i + 1)).take i := by rw [List.take_take, Nat.min_eq_left (Nat.le_succ _)]
    rw [e1, h2, List.take_take, Nat.min_eq_left (Nat.le_succ _), List.take_set_of_le (Nat.le_refl _)]
/-- fewer elements -/
theorem RowV.fewer (h : RowV w e k (.slice (some ⟨g, 0, none⟩) n cap) n cs (some g)) {m : Nat} (hm : m ≤ n) : RowV w e k (.slice (some ⟨g, 0, none⟩) m cap) m (cs.take (m * k)) (some g) := by
  have hmk : m * k ≤ n * k := Nat.mul_le_mul_right _ hm
  obtain ⟨hl, ⟨h1, _⟩ | ⟨g', cap', cur, h0, h1, h2, h3, h4, h5, h6⟩⟩ := h
  · cases h1
  · cases h0; cases h1
    refine ⟨by rw [List.length_take]; omega, .inr ⟨g, cap, cur, rfl, rfl, h2, by omega, h4, h5, ?_⟩⟩
    rw [← h6, List.take_take, Nat.min_eq_left hmk]
end
theorem zeroStr (w : World) : (zeroValue 9).run Tryd.prog w = .ok (.string ⟨#[]⟩) w := by kernel_rfl
set_option maxHeartbeats 6400000 in
theorem pdelete (ss : List ByteArray) (gB cap g : Nat) (P : ByteArray → Bool) (w : World) (h : RowV w 9 1 (.slice (some ⟨gB, 0, none⟩) ss.length cap) ss.length (ss.map .string) (some gB)) (hl : ss.length ≤ 1000000000000)
    (hf : ∀ wx, Keep (fun q => q = gB) w wx → ∀ k, Calls Tryd.prog 38 #[.string k, .pointer (some ⟨g, 0, none⟩)] wx fun e w' => e = .returned (.bool (P k)) ∧ w' = wx) (a : Nat) (ha : ss.findIdx? P = some a) :
    Calls Tryd.prog 37 #[.slice (some ⟨gB, 0, none⟩) ss.length cap, .func (.func 38) #[] #[.pointer (some ⟨g, 0, none⟩)]] w fun e w' =>
      e = .returned (.slice (some ⟨gB, 0, none⟩) (ss.filter (fun s => !P s)).length cap) ∧ RowV w' 9 1 (.slice (some ⟨gB, 0, none⟩) (ss.filter (fun s => !P s)).length cap) (ss.filter (fun s => !P s)).length ((ss.filter (fun s => !P s)).map .string) (some gB) ∧ Keep (fun q => q = gB) w w' := by
  have hst : StrsAt w (some ⟨gB, 0, none⟩) ss := fun i hi => by
    obtain ⟨g', cap', _, e1, _, _, _, hc, _⟩ := h.mem (by omega)
    cases e1
    exact ⟨gB, 0, rfl, by rw [Nat.zero_add, hc i (by omega), List.getElem?_map, List.getElem?_eq_getElem hi]; rfl⟩
  have PI := pindexf ss (some ⟨gB, 0, none⟩) cap g P w hst (by omega) (hf w (Keep.refl _ _))
  rw [show firstI P ss = (a : Int) from by unfold firstI; rw [ha]] at PI
  have PI := Lib.hid PI
  have han : a < ss.length := (List.findIdx?_eq_some_iff_getElem.1 ha).1
  have HH := Lib.hid (And.intro h (And.intro hf ha))
  clear h hf hst ha
  obtain ⟨n, hn⟩ : ∃ n, n = ss.length := ⟨_, rfl⟩
  rw [← hn] at hl PI han HH ⊢
  have HN := Lib.hid hn
  clear hn
  have hneg : ((a : Int) == -1) = false := beq_false_of_ne (by omega)
  go_enter Tryd.func37, Tryd.ntmps37
  go_wp2_with fail
  refine PI.out.mono ?_
  rintro e w1 ⟨rfl, rfl⟩
  go_wp2
  go_loopg [5, 6] (n - (a + 1)) (fun gh vi vj wx => ∃ (i j : Nat) (M : List ByteArray), j ≤ n ∧ i < j ∧ vi = .int .i64 (i : Int) ∧ vj = .int .i64 (j : Int) ∧ gh = n - j ∧ Hid (DInv P ss M i j ∧ RowV wx 9 1 (.slice (some ⟨gB, 0, none⟩) n cap) n (M.map .string) (some gB) ∧ Keep (fun q => q = gB) w1 wx))
  case atStart => exact ⟨a, a + 1, ss, han, Nat.lt_succ_self _, rfl, by go_num, rfl, DInv.start HH.out.2.2, HH.out.1, Keep.refl _ _⟩
  case round =>
    obtain ⟨i, j, M, hj, hij, rfl, rfl, hg, HM⟩ := hrel
    have HG := Lib.hid hg
    clear hg
    obtain ⟨g', cap', e1, e2, hcap, hcm, hgl, hcell, hfree⟩ := HM.out.2.1.mem (by omega)
    cases e1; cases e2
    have hml : M.length = n := HM.out.1.len.trans HN.out.symm
    by_cases hlt : j < n
    · have hjs : j < ss.length := by rw [← HN.out]; exact hlt
      have cj : wr.cell? ⟨gB, j, none⟩ = some (.string ss[j]) := by
        rw [hcell j (by omega), List.getElem?_map, HM.out.1.get hjs]; rfl
      have ci : ∃ u, wr.cell? ⟨gB, i, none⟩ = some u := ⟨_, by rw [hcell i (by omega), List.getElem?_map, List.getElem?_eq_getElem (by omega)]; rfl⟩
      obtain ⟨u, ci⟩ := ci
      have fi := hfree i
      have PC := Lib.hid (HH.out.2.1 wr HM.out.2.2 ss[j])
      obtain ⟨s, hs⟩ : ∃ s, s = ss[j] := ⟨_, rfl⟩
      obtain ⟨pb, hpb⟩ : ∃ pb, pb = P s := ⟨_, rfl⟩
      rw [← hs] at cj PC
      rw [← hpb] at PC
      have HS := Lib.hid (And.intro hs hpb)
      clear hs hpb hcell hfree hml
      go_wp2_with fail
      refine PC.out.mono ?_
      rintro e w2 ⟨rfl, hw⟩
      subst w2
      cases pb
      · have hI := HM.out.1.put hjs (by rw [← HS.out.1]; exact HS.out.2.symm)
        rw [← HS.out.1] at hI
        have hR := HM.out.2.1.set i (.string s) (by omega)
        have e3 : (M.map Value.string).set i (.string s) = (M.set i s).map .string := by rw [List.map_set]
        rw [e3] at hR
        have H2 := Lib.hid (And.intro hI (And.intro hR (HM.out.2.2.set (X := fun q => q = gB) (p := ⟨gB, i, none⟩) (.inl rfl) (.string s))))
        clear hI hR e3
        go_wp2
        go_roundg (n - (j + 1))
        case measure => rw [HG.out]; omega
        case rel => exact ⟨i + 1, j + 1, M.set i s, hlt, by omega, by go_num, by go_num, rfl, H2.out⟩
      · have hI := HM.out.1.skip hjs (by rw [← HS.out.1]; exact HS.out.2.symm)
        have H2 := Lib.hid hI
        clear hI
        go_wp2
        go_roundg (n - (j + 1))
        case measure => rw [HG.out]; omega
        case rel => exact ⟨i, j + 1, M, hlt, by omega, by go_num, by go_num, rfl, H2.out, HM.out.2⟩
    · obtain rfl : j = n := by omega
      have hcl : (Builtin.clear_ #[23] 0 #[.slice (some ⟨gB, i, none⟩) (j - i) (cap - i)]).run Tryd.prog wr = .ok (.tuple #[]) (wr.setCells gB i (List.replicate (j - i) (.string ⟨#[]⟩))) := Lib.run_clear_slice (P := Tryd.prog) wr 23 9 0 (.string ⟨#[]⟩) Tryd.underlying23 zeroStr rfl rfl gB i (j - i) (cap - i) (by omega) (fun t ht => by
        rw [hcell (i + t) (by omega), List.getElem?_map, List.getElem?_eq_getElem (by omega)]; rfl) (fun t ht => hfree _)
      obtain ⟨cs', hR, htk, hk⟩ := RowV.sets (List.replicate (j - i) (Value.string ⟨#[]⟩)) i HM.out.2.1 (by rw [List.length_replicate]; omega)
      have hE := HM.out.1
      rw [HN.out] at hE
      have hF := hE.fin
      have hRR := hR.fewer (m := i) (by omega)
      rw [Nat.mul_one, htk, ← List.map_take, hF.1] at hRR
      have H2 := Lib.hid (And.intro hRR (And.intro (HM.out.2.2.trans hk) hF.2))
      clear hRR hk hF hE htk hR cs' hcell hfree hml
      generalize wr.setCells gB i (List.replicate (j - i) (.string ⟨#[]⟩)) = w3 at *
      have s2 : i ≤ j := by omega
      have s4 : i < cap := by omega
      have s5 : i ≤ cap := by omega
      go_wp2
      go_ret
      rw [← H2.out.2.2]
      exact ⟨rfl, H2.out.1, H2.out.2.1⟩
/-- the keys that begin so -/
def pfx (l : KV) (pr : ByteArray) : List ByteArray := (l.map fun p => sK p.1).filter (fun k => Lib.hasPrefix k.data.toList pr.data.toList)
set_option maxHeartbeats 1600000 in
theorem jkeysP (j b : Nat) (t : Addr) (nv hv : Value) (l : KV) (N : Nat → Prop) (pr : ByteArray) (w : World) (h : Blk w j #[.pointer (some t), .map (some b), nv, hv] 30) (hM : JMap N w b l) (hs : Srt l) (hk : ∀ p ∈ l, p.1.length ≤ 100) (hl : l.length ≤ 1000000000000) :
    Calls Tryd.prog 10 #[.pointer (some ⟨j, 0, none⟩), .string pr] w fun e w' => ∃ q c o, e = .returned (.slice q (pfx l pr).length c) ∧ RowV w' 9 1 (.slice q (pfx l pr).length c) (pfx l pr).length ((pfx l pr).map .string) o ∧ (∀ g, o = some g → w.heap.size ≤ g) ∧ Below w.heap.size w w' := by
  have k0 := (Below.refl w.heap.size w).alloc (Nat.le_refl _) (.cells #[.string pr] 9)
  have b0 := Blk.new w #[.string pr] 9
  have HW := Lib.hid (And.intro (h.beyond k0) (And.intro (hM.keep (X := fun _ => False) ((Keep.refl _ w).alloc _) (fun h => h) (fun _ _ _ h => h) : JMap N (w.alloc (.cells #[.string pr] 9)) b l) (And.intro hs (And.intro hk (And.intro hl (And.intro k0 b0))))))
  clear h hM hs hk hl k0 b0
  go_enter Tryd.func10, Tryd.ntmps10
  go_upto_region 1 with fail
  generalize w.alloc (.cells #[.string pr] 9) = w0 at *
  have PN := Lib.hid (jnone j t w0 (HW.out.1.cell 0))
  have c1 : w0.cell? ⟨j, 1, none⟩ = some (.map (some b)) := HW.out.1.cell 1
  obtain ⟨D, hD, hDn, hDs⟩ := HW.out.2.1.keys HW.out.2.2.1 HW.out.2.2.2.1
  have PK := Lib.hid (callsIn_wide.1 (Tryd.maps_KeysM (some b) w0))
  have PS := Lib.hid (callsIn_wide.1 (Tryd.slices_SortedM b l.length D RV w0 hD (by rw [hDn]; unfold maxLen; have := HW.out.2.2.2.2.1; omega) (by rw [hDn]; have := HW.out.2.2.2.2.1; omega)))
  go_wp2_with (first | (refine PN.out.mono ?_; rintro e w' ⟨rfl, rfl⟩) | (refine PK.out.mono ?_; rintro e w' ⟨rfl, rfl⟩) | fail)
  refine PS.out.mono ?_
  rintro e w2 ⟨v, ss, rfl, hS, hrow, hnil, hb2⟩
  have hsl : ss.length = l.length := by
    have := congrArg List.length (hDs ss hS)
    simpa using this
  rw [hDs ss hS, hsl] at hrow
  obtain ⟨o, R, ho, _⟩ := RowV.of_owns hrow
  obtain ⟨q, c, rfl, hle, hcm, _⟩ := R.form
  have hst : StrsAt w2 q (l.map fun p => sK p.1) := fun i hi => by
    have hi' : i < l.length := by simpa using hi
    obtain ⟨g, cap, _, e1, _, _, _, hc, _⟩ := R.mem (by omega)
    cases e1
    refine ⟨g, 0, rfl, ?_⟩
    rw [Nat.zero_add, hc i (by omega)]
    simp [hi', Go.Proofs.encStr, sK]
  have hbx : Below w'.heap.size w' w2 := ((Below.refl _ w').alloc (Nat.le_refl _) (.cells #[.map (some b)] 28)).trans (hb2.mono (by simp))
  have hcx : w2.cell? ⟨w.heap.size, 0, none⟩ = some (.string pr) := (HW.out.2.2.2.2.2.2.beyond hbx).cell 0
  have hgw : w.heap.size < w'.heap.size := HW.out.2.2.2.2.2.2.lt
  have hR2 : RowV w2 9 1 (.slice q (l.map fun p => sK p.1).length c) (l.map fun p => sK p.1).length ((l.map fun p => sK p.1).map .string) o := by
    have h := R
    rw [List.map_map] at h
    rw [List.length_map, List.map_map]
    exact h
  have hln : (l.map fun p => sK p.1).length ≤ 1000000000000 := by rw [List.length_map]; exact HW.out.2.2.2.2.1
  have hlen : (l.map fun p => sK p.1).length = l.length := List.length_map _
  have hog : ∀ g, o = some g → w'.heap.size < g + 1 := fun g hg => by have h1 := (ho g hg).1; simp at h1; omega
  have PDD : Calls Tryd.prog 37 #[.slice q l.length c, .func (.func 38) #[] #[.pointer (some ⟨w.heap.size, 0, none⟩)]] w2 fun e w3 =>
      ∃ q' c' o', e = .returned (.slice q' (pfx l pr).length c') ∧ RowV w3 9 1 (.slice q' (pfx l pr).length c') (pfx l pr).length ((pfx l pr).map .string) o' ∧ (∀ g, o' = some g → w.heap.size ≤ g) ∧ Below w.heap.size w w3 := by
    have hww2 : Below w.heap.size w w2 := HW.out.2.2.2.2.2.1.trans (hbx.mono HW.out.2.2.2.2.2.1.size)
    have hpf : (l.map fun p => sK p.1).filter (fun s => !(fun k : ByteArray => !Lib.hasPrefix k.data.toList pr.data.toList) s) = pfx l pr := by
      unfold pfx; simp only [Bool.not_not]
    rw [← hlen]
    rcases hfi : (l.map fun p => sK p.1).findIdx? (fun k : ByteArray => !Lib.hasPrefix k.data.toList pr.data.toList) with _ | a
    · have hall := List.findIdx?_eq_none_iff.1 hfi
      have PD := pdelete_none (l.map fun p => sK p.1) q c w.heap.size (fun k => !Lib.hasPrefix k.data.toList pr.data.toList) w2 hst (by omega) (fun k => pnoprefix k pr w.heap.size w2 hcx) hall
      refine PD.mono ?_
      rintro e w3 ⟨rfl, hw⟩
      subst hw
      have hself : pfx l pr = l.map fun p => sK p.1 := by rw [← hpf]; exact List.filter_eq_self.2 fun x hx => by have h1 := hall x hx; simp only [Bool.not_eq_true', Bool.not_eq_false'] at h1 ⊢; simpa using h1
      rw [hself]
      exact ⟨q, c, o, rfl, hR2, fun g hg => by have := hog g hg; omega, hww2⟩
    · have hpos : 0 < (l.map fun p => sK p.1).length := by have := (List.findIdx?_eq_some_iff_getElem.1 hfi).1; omega
      obtain ⟨g, cap, rfl, e1, _, _, _, _, _⟩ := hR2.mem hpos
      cases e1
      have hgg := hog g rfl
      have PD := pdelete (l.map fun p => sK p.1) g c w.heap.size (fun k => !Lib.hasPrefix k.data.toList pr.data.toList) w2 hR2 hln (fun wx hk k => pnoprefix k pr w.heap.size wx ((hk.cell (p := ⟨w.heap.size, 0, none⟩) (cell_lt hcx) (fun e => by have e' : w.heap.size = g := e; omega)).trans hcx)) a hfi
      refine PD.mono ?_
      rintro e w3 ⟨rfl, hR3, hk3⟩
      rw [hpf] at hR3 ⊢
      exact ⟨_, c, some g, rfl, hR3, fun g' hg' => by cases hg'; omega, hww2.trans (hk3.below hww2.size (fun k hk => by omega))⟩
  have PDD := Lib.hid PDD
  clear R ho hbx hcx hst hrow hnil hb2 hS hsl hR2 hln hlen hog
  generalize l.length = ln at *
  go_wp2_with fail
  refine PDD.out.mono ?_
  rintro e w3 ⟨q', c', o', rfl, H⟩
  have HF := Lib.hid H
  clear H
  generalize hpl : (pfx l pr).length = pl at *
  have HPL := Lib.hid hpl
  clear hpl
  go_wp2
  go_ret
  rw [HPL.out]
  exact ⟨q', c', o', rfl, HF.out⟩
end Go.Proofs.YtbjbjgfjaopibaaDoor
end

section
/- The law's 'after': slices.IndexFunc and slices.DeleteFunc over pairs. -/
namespace Go.Proofs.YtbjbjgfjaopibaaDoor
open Go Go.RowKit
set_option linter.unusedSimpArgs false
set_option linter.unusedVariables false
set_option maxRecDepth 100000

/-- has this key -/
def keyIs (k : ByteArray) (x : PairD) : Bool := x.key.toList == k.toList
theorem keyIs_iff {k : ByteArray} {x : PairD} : keyIs k x = true ↔ bsK x.key = bsK k := by
  unfold keyIs
  rw [beq_iff_eq, ByteArray.toList_eq, ByteArray.toList_eq]
  exact Iff.rfl
/-- pairs in memory, one behind the other -/
def PairsAt (w : World) (q : Option Addr) (X : List PairD) : Prop := ∀ i (h : i < X.length), ∃ b o, q = some ⟨b, o, none⟩ ∧ CellsAt w b (o + i * 2) (pairCs X[i])
theorem RowV.pairs {w : World} {g cap : Nat} {X : List PairD} (h : RowV w 55 2 (.slice (some ⟨g, 0, none⟩) X.length cap) X.length (X.flatMap pairCs) (some g)) : PairsAt w (some ⟨g, 0, none⟩) X := fun i hi => by
  obtain ⟨g', cap', ho, ev, _, _, hg, hc, _⟩ := h.mem (by omega)
  cases ev; cases ho
  refine ⟨g, 0, rfl, fun j hj => ?_⟩
  have hj' : j < pairK.k := hj
  show w.cell? ⟨g, 0 + i * pairK.k + j, none⟩ = (pairK.cs X[i])[j]?
  rw [Nat.zero_add, hc (i * pairK.k + j) (by show i * 2 + j < X.length * 2; have h2 : j < 2 := hj; omega)]
  exact flat_get pairK X i j hi hj'
theorem PairsAt.below {w w' : World} {q : Option Addr} {X : List PairD} (h : PairsAt w q X) (hb : Below w.heap.size w w') : PairsAt w' q X := fun i hi => by
  obtain ⟨b, o, h1, h2⟩ := h i hi
  exact ⟨b, o, h1, h2.below hb⟩
set_option maxHeartbeats 1600000 in
theorem pkeyis (x : PairD) (k : ByteArray) (g : Nat) (w : World) (h : w.cell? ⟨g, 0, none⟩ = some (.string k)) :
    Calls Tryd.prog 49 #[.agg (pairCs x).toArray, .pointer (some ⟨g, 0, none⟩)] w fun e w' => e = .returned (.bool (keyIs k x)) ∧ Below w.heap.size w w' := by
  obtain ⟨xk, ⟨xa, xc, xz⟩⟩ := x
  change Calls Tryd.prog 49 #[.agg #[.string xk, .slice xa xz.length xc], .pointer (some ⟨g, 0, none⟩)] w fun e w' => e = .returned (.bool (xk.toList == k.toList)) ∧ _
  have hg := cell_lt h
  generalize xz.length = n at *
  have HB := Lib.hid ((Below.refl w.heap.size w).alloc (Nat.le_refl _) (.cells #[.string xk, .slice xa n xc] 55))
  have c0 : (w.alloc (.cells #[.string xk, .slice xa n xc] 55)).cell? ⟨g, 0, none⟩ = some (.string k) := (((Keep.refl (fun _ => False) w).alloc _).cell (p := ⟨g, 0, none⟩) hg (fun h => h)).trans h
  go_enter Tryd.func49, Tryd.ntmps49
  go_wp2
  go_ret
  exact ⟨rfl, HB.out⟩
/-- where the first stands of which P holds -/
def firstP (P : PairD → Bool) (X : List PairD) : Int := match X.findIdx? P with | some i => (i : Int) | none => -1
set_option maxHeartbeats 3200000 in
theorem pindexP (X : List PairD) (q : Option Addr) (c : Nat) (g : Nat) (key : ByteArray) (w : World) (h : PairsAt w q X) (hl : X.length ≤ 9223372036854775807) (hg : w.cell? ⟨g, 0, none⟩ = some (.string key)) :
    Calls Tryd.prog 66 #[.slice q X.length c, .func (.func 49) #[] #[.pointer (some ⟨g, 0, none⟩)]] w fun e w' => e = .returned (.int .i64 (firstP (keyIs key) X)) ∧ Below w.heap.size w w' := by
  have HH := Lib.hid (And.intro h hg)
  clear h hg
  obtain ⟨n, hn⟩ : ∃ n, n = X.length := ⟨_, rfl⟩
  rw [← hn] at hl ⊢
  have HN := Lib.hid hn
  clear hn
  go_enter Tryd.func66, Tryd.ntmps66
  go_wp2
  go_loopg [8] n (fun gh i wx => ∃ k : Nat, k ≤ n ∧ i = .int .i64 (k : Int) ∧ gh = n - k ∧ Hid ((∀ i (h : i < X.length), i < k → keyIs key X[i] = false) ∧ Below w.heap.size w wx))
  case atStart => exact ⟨0, Nat.zero_le _, rfl, rfl, fun i _ hi => absurd hi (Nat.not_lt_zero i), Below.refl _ _⟩
  case round =>
    obtain ⟨k, hk, rfl, hg, HK⟩ := hrel
    have HG := Lib.hid hg
    clear hg
    by_cases hlt : k < n
    · have hks : k < X.length := by rw [← HN.out]; exact hlt
      obtain ⟨b, off, rfl, hca⟩ := HH.out.1 k hks
      have PF := pkeyis X[k] key g wr ((HK.out.2.cell (p := ⟨g, 0, none⟩) (cell_lt HH.out.2)).trans HH.out.2)
      obtain ⟨IC, hIC⟩ : ∃ IC, IC = pairCs X[k] := ⟨_, rfl⟩
      obtain ⟨bs, hbs⟩ : ∃ bs, bs = keyIs key X[k] := ⟨_, rfl⟩
      rw [← hIC] at hca PF
      rw [← hbs] at PF
      have hcl : IC.length = 2 := by rw [hIC]; rfl
      have hr1 := cells_rangeJ (hca.below HK.out.2)
      have hinf : (Tryd.prog.info? 55).map (·.size) = some IC.length := by rw [hcl]; kernel_rfl
      have PF := Lib.hid PF
      have HBS := Lib.hid hbs
      clear hca hcl hIC hbs
      go_wp2_with (first | (refine wpList_load_mid rfl 55 (.tmp 14) rfl b (off + k * 2) rfl IC _ hr1 Tryd.underlying55 rfl hinf ?_))
      refine PF.out.mono ?_
      rintro e w2 ⟨rfl, hb2⟩
      have HB2 := Lib.hid (HK.out.2.trans (hb2.mono HK.out.2.size))
      clear hb2 hr1 PF
      cases bs
      · have HK2 := Lib.hid (show ∀ i (h : i < X.length), i < k + 1 → keyIs key X[i] = false from fun i h hi => by
          rcases Nat.lt_or_ge i k with h1 | h1
          · exact HK.out.1 i h h1
          · obtain rfl : i = k := by omega
            exact HBS.out.symm)
        go_wp2
        go_roundg (n - (k + 1))
        case measure => rw [HG.out]; omega
        case rel => exact ⟨k + 1, hlt, rfl, rfl, HK2.out, HB2.out⟩
      · have hfi : firstP (keyIs key) X = (k : Int) := by
          unfold firstP
          have : X.findIdx? (keyIs key) = some k := List.findIdx?_eq_some_iff_getElem.2 ⟨hks, HBS.out.symm, fun j hj => by simpa using HK.out.1 j (by omega) hj⟩
          rw [this]
        have HFI := Lib.hid hfi
        clear hfi
        go_wp2
        go_ret
        exact ⟨by rw [HFI.out]; rfl, HB2.out⟩
    · obtain rfl : k = n := by omega
      have hfi : firstP (keyIs key) X = -1 := by
        unfold firstP
        have : X.findIdx? (keyIs key) = none := List.findIdx?_eq_none_iff.2 fun x hx => by
          obtain ⟨i, hi, rfl⟩ := List.getElem_of_mem hx
          exact HK.out.1 i hi (by rw [HN.out]; exact hi)
        rw [this]
      have HFI := Lib.hid hfi
      clear hfi
      go_wp2
      go_ret
      exact ⟨by rw [HFI.out]; rfl, HK.out.2⟩
theorem flat_set : ∀ (M : List PairD) (i : Nat) (x : PairD), i < M.length → ((M.flatMap pairCs).set (i * 2) (.string x.key)).set (i * 2 + 1) x.val.cell = (M.set i x).flatMap pairCs
  | [], i, x, h => by simp at h
  | y :: t, 0, x, _ => rfl
  | y :: t, i + 1, x, h => by
    have ih := flat_set t i x (by simpa using h)
    show ((Value.string y.key :: y.val.cell :: t.flatMap pairCs).set ((i + 1) * 2) _).set ((i + 1) * 2 + 1) _ = Value.string y.key :: y.val.cell :: (t.set i x).flatMap pairCs
    rw [show (i + 1) * 2 = i * 2 + 1 + 1 from by omega]
    simp only [List.set_cons_succ]
    rw [ih]
theorem flatP_len (M : List PairD) : (M.flatMap pairCs).length = M.length * 2 := flat_len pairK M
theorem flatP_take : ∀ (M : List PairD) (i : Nat), (M.flatMap pairCs).take (i * 2) = (M.take i).flatMap pairCs
  | [], i => by simp
  | y :: t, 0 => rfl
  | y :: t, i + 1 => by
    show (Value.string y.key :: y.val.cell :: t.flatMap pairCs).take ((i + 1) * 2) = Value.string y.key :: y.val.cell :: (t.take i).flatMap pairCs
    rw [show (i + 1) * 2 = i * 2 + 1 + 1 from by omega, List.take_succ_cons, List.take_succ_cons, flatP_take t i]
/-- one pair written -/
theorem RowV.setP {w : World} {g cap n : Nat} {M : List PairD} (h : RowV w 55 2 (.slice (some ⟨g, 0, none⟩) n cap) n (M.flatMap pairCs) (some g)) {i : Nat} (hi : i < M.length) (x : PairD) :
    RowV (w.setCells g (i * 2) (pairCs x)) 55 2 (.slice (some ⟨g, 0, none⟩) n cap) n ((M.set i x).flatMap pairCs) (some g) ∧ Keep (fun q => q = g) w (w.setCells g (i * 2) (pairCs x)) := by
  have hl : M.length * 2 = n * 2 := by rw [← flatP_len]; exact h.1
  have h1 := (h.set (i * 2) (.string x.key) (by omega)).set (i * 2 + 1) x.val.cell (by omega)
  rw [flat_set M i x hi] at h1
  exact ⟨h1, ((Keep.refl _ w).set (X := fun q => q = g) (p := ⟨g, i * 2, none⟩) (.inl rfl) _).set (X := fun q => q = g) (p := ⟨g, i * 2 + 1, none⟩) (.inl rfl) _⟩
/-- clear of a slice of pairs -/
theorem run_clear_pairs (w : World) (b o n c : Nat) (hn : 0 < n) (hc : ∀ j, j < n * 2 → (w.cell? ⟨b, o + j, none⟩).isSome = true) (hf : ∀ j, j < n * 2 → w.frozen? ⟨b, o + j, none⟩ = false) :
    ∃ us : List Value, us.length = n * 2 ∧ (Builtin.clear_ #[22] 0 #[.slice (some ⟨b, o, none⟩) n c]).run Tryd.prog w = .ok (.tuple #[]) (w.setCells b o us) := by
  have hzv : ∀ w : World, (zeroValue 55).run Tryd.prog w = .ok (.agg #[.string ⟨#[]⟩, .slice none 0 0]) w := fun w => by kernel_rfl
  have hzl : (Builtin.zeroCells #[.string ⟨#[]⟩, .slice none 0 0] n).toList.length = n * 2 := by simp [Builtin.zeroCells]
  have hone : ∀ v ∈ (Builtin.zeroCells #[.string ⟨#[]⟩, .slice none 0 0] n).toList, v.oneCell' = true := fun v hv => by
    simp only [Builtin.zeroCells, Array.toList_map, List.mem_map] at hv
    obtain ⟨i, _, rfl⟩ := hv
    have h2 : i % 2 = 0 ∨ i % 2 = 1 := by omega
    show Value.oneCell' (#[Value.string ⟨#[]⟩, .slice none 0 0][i % 2]!) = true
    rcases h2 with h | h <;> rw [h] <;> rfl
  have hst := run_storeCells_cells (P := Tryd.prog) b o (Builtin.zeroCells #[.string ⟨#[]⟩, .slice none 0 0] n).toList 0 w (by rw [hzl]; simpa using hc) (by rw [hzl]; simpa using hf) hone
  simp only [Nat.add_zero] at hst
  refine ⟨_, hzl, ?_⟩
  obtain ⟨m, rfl⟩ : ∃ m, n = m + 1 := ⟨n - 1, by omega⟩
  simp [Builtin.clear_, run_underlying Tryd.underlying22, hzv, hst, Value.cells]
set_option maxHeartbeats 6400000 in
theorem pdeleteP (X : List PairD) (gB cap g : Nat) (key : ByteArray) (w : World) (h : RowV w 55 2 (.slice (some ⟨gB, 0, none⟩) X.length cap) X.length (X.flatMap pairCs) (some gB)) (hl : X.length ≤ 1000000000000)
    (hg : w.cell? ⟨g, 0, none⟩ = some (.string key)) (hgB : g ≠ gB) (a : Nat) (ha : X.findIdx? (keyIs key) = some a) :
    Calls Tryd.prog 48 #[.slice (some ⟨gB, 0, none⟩) X.length cap, .func (.func 49) #[] #[.pointer (some ⟨g, 0, none⟩)]] w fun e w' =>
      e = .returned (.slice (some ⟨gB, 0, none⟩) (X.filter (fun s => !keyIs key s)).length cap) ∧ RowV w' 55 2 (.slice (some ⟨gB, 0, none⟩) (X.filter (fun s => !keyIs key s)).length cap) (X.filter (fun s => !keyIs key s)).length ((X.filter (fun s => !keyIs key s)).flatMap pairCs) (some gB) ∧ Keep (fun q => q = gB) w w' := by
  have PI := pindexP X (some ⟨gB, 0, none⟩) cap g key w h.pairs (by omega) hg
  rw [show firstP (keyIs key) X = (a : Int) from by unfold firstP; rw [ha]] at PI
  have PI := Lib.hid PI
  have han : a < X.length := (List.findIdx?_eq_some_iff_getElem.1 ha).1
  have hgl := cell_lt hg
  have HH := Lib.hid (And.intro h (And.intro hg ha))
  clear h hg ha
  obtain ⟨n, hn⟩ : ∃ n, n = X.length := ⟨_, rfl⟩
  rw [← hn] at hl PI han HH ⊢
  have HN := Lib.hid hn
  clear hn
  have hneg : ((a : Int) == -1) = false := beq_false_of_ne (by omega)
  go_enter Tryd.func48, Tryd.ntmps48
  go_wp2_with fail
  refine PI.out.mono ?_
  rintro e w1 ⟨rfl, hb1⟩
  have H1 := Lib.hid hb1
  clear hb1
  go_wp2
  go_loopg [5, 6] (n - (a + 1)) (fun gh vi vj wx => ∃ (i j : Nat) (M : List PairD), j ≤ n ∧ i < j ∧ vi = .int .i64 (i : Int) ∧ vj = .int .i64 (j : Int) ∧ gh = n - j ∧ Hid (DInv (keyIs key) X M i j ∧ RowV wx 55 2 (.slice (some ⟨gB, 0, none⟩) n cap) n (M.flatMap pairCs) (some gB) ∧ Keep (fun q => q = gB) w wx))
  case atStart => exact ⟨a, a + 1, X, han, Nat.lt_succ_self _, rfl, by go_num, rfl, DInv.start HH.out.2.2, HH.out.1.keep (Keep.of_below (X := fun _ => False) H1.out) (fun _ _ h => h), Keep.of_below H1.out⟩
  case round =>
    obtain ⟨i, j, M, hj, hij, rfl, rfl, hg, HM⟩ := hrel
    have HG := Lib.hid hg
    clear hg
    obtain ⟨g', cap', e1, e2, hcap, hcm, hgBl, hcell, hfree⟩ := HM.out.2.1.mem (by omega)
    cases e1; cases e2
    have hml : M.length = n := HM.out.1.len.trans HN.out.symm
    by_cases hlt : j < n
    · have hjs : j < X.length := by rw [← HN.out]; exact hlt
      have hjm : j < M.length := by omega
      have hMj : M[j] = X[j] := by
        have h1 := HM.out.1.get hjs
        rw [List.getElem?_eq_getElem hjm] at h1
        exact Option.some.inj h1
      have hpa : PairsAt wr (some ⟨gB, 0, none⟩) M := by have h1 := HM.out.2.1; rw [← hml] at h1; exact h1.pairs
      obtain ⟨b', o', e3, hca⟩ := hpa j hjm
      cases e3
      rw [hMj] at hca
      obtain ⟨s, hs⟩ : ∃ s, s = X[j] := ⟨_, rfl⟩
      rw [← hs] at hca
      obtain ⟨pb, hpb⟩ : ∃ pb, pb = keyIs key s := ⟨_, rfl⟩
      obtain ⟨IC, hIC⟩ : ∃ IC, IC = pairCs s := ⟨_, rfl⟩
      have hcl : IC.length = 2 := by rw [hIC]; rfl
      rw [← hIC] at hca
      have hone1 : IC.toArray.all (·.oneCell') = true := by rw [hIC]; exact arr_oneJ (pairK.one s)
      have HS := Lib.hid (And.intro hs (And.intro hpb hIC))
      have hsa1 : IC.toArray.size = 2 := by rw [List.size_toArray]; exact hcl
      have hr1 := cells_rangeJ hca
      have bz := Blk.new wr #[.string ⟨#[]⟩, .slice none 0 0] 55
      have kz := (Below.refl wr.heap.size wr).alloc (Nat.le_refl _) (.cells #[.string ⟨#[]⟩, .slice none 0 0] 55)
      have hinf1 : (Tryd.prog.info? 55).map (·.size) = some IC.toArray.size := by rw [hsa1]; kernel_rfl
      have hinf1' : (Tryd.prog.info? 55).map (·.size) = some IC.length := by rw [hcl]; kernel_rfl
      have hsz1 : (#[.string ⟨#[]⟩, .slice none 0 0] : Array Value).size = IC.toArray.size := by rw [hsa1]; rfl
      have bx := bz.setAll IC.toArray hsz1
      have kx := below_setCells (B := wr.heap.size) (g := wr.heap.size) (Nat.le_refl _) IC.toArray.toList 0 (wr.alloc (.cells #[.string ⟨#[]⟩, .slice none 0 0] 55)) kz
      have hji : j < n ∧ i < n := ⟨hlt, by omega⟩
      clear hs hpb hIC hca kz hcell hfree hml hjm hMj hpa
      rw [Nat.zero_add] at hr1
      go_upto_region 8 with (first | (refine wpList_load_mid rfl 55 (.tmp 24) rfl gB (j * 2) rfl IC _ hr1 Tryd.underlying55 rfl hinf1' ?_) | (refine wpl_store rfl 55 (.tmp 7) (.tmp 25) rfl rfl rfl bz hsz1 hinf1 hone1 ?_))
      rw [List.toList_toArray] at kx bx
      change Blk ((wr.alloc (.cells #[.string ⟨#[]⟩, .slice none 0 0] 55)).setCells wr.heap.size 0 IC) wr.heap.size IC.toArray 55 at bx
      clear bz hr1
      generalize (wr.alloc (.cells #[.string ⟨#[]⟩, .slice none 0 0] 55)).setCells wr.heap.size 0 IC = w4 at *
      generalize hgx : wr.heap.size = gx at *
      have hb4 : Below wr.heap.size wr w4 := by rw [hgx]; exact kx
      have hk4 : Keep (fun q => q = gB) w w4 := HM.out.2.2.trans (Keep.of_below hb4)
      have PC := pkeyis s key g w4 ((hk4.cell (p := ⟨g, 0, none⟩) hgl hgB).trans HH.out.2.1)
      rw [← HS.out.2.1, ← HS.out.2.2] at PC
      have PC := Lib.hid PC
      have H4 := Lib.hid (And.intro hb4 hk4)
      have r1 := cells_rangeJ (w := w4) (b := gx) (o := 0) (cs := IC) (fun t ht => by rw [Nat.zero_add, bx.cell, List.getElem?_toArray])
      have HX4 := Lib.hid bx
      clear hb4 hk4 kx bx
      go_wp2_with (first | (refine wpList_load_mid rfl 55 (.tmp 7) rfl gx 0 rfl IC _ r1 Tryd.underlying55 rfl hinf1' ?_))
      refine PC.out.mono ?_
      rintro e w5 ⟨rfl, hb5⟩
      have hk5 : Keep (fun q => q = gB) w w5 := H4.out.2.trans (Keep.of_below hb5)
      have hb45 : Below wr.heap.size wr w5 := H4.out.1.trans (hb5.mono H4.out.1.size)
      have hR5 := HM.out.2.1.keep (Keep.of_below (X := fun _ => False) hb45) (fun _ _ h => h)
      have bx5 := HX4.out.beyond hb5
      have r5 := cells_rangeJ (w := w5) (b := gx) (o := 0) (cs := IC) (fun t ht => by rw [Nat.zero_add, bx5.cell, List.getElem?_toArray])
      have hj8 : j < X.length := hjs
      have hiM : i < M.length := by rw [HM.out.1.len]; omega
      cases pb
      · have hI := HM.out.1.put hj8 (by rw [← HS.out.1]; exact HS.out.2.1.symm)
        rw [← HS.out.1] at hI
        have hP := hR5.setP hiM s
        rw [← HS.out.2.2] at hP
        have hth : w5.there gB (i * 2) IC.toArray.size := by
          obtain ⟨g', cap', e1, e2, _, _, _, hcell, hfree⟩ := hR5.mem (by omega)
          cases e1; cases e2
          rw [hsa1]
          intro t ht
          refine ⟨?_, hfree _⟩
          rw [hcell (i * 2 + t) (by omega), List.getElem?_eq_getElem (by rw [flatP_len]; omega)]
          rfl
        have H5 := Lib.hid (And.intro hI (And.intro hP.1 (hk5.trans hP.2)))
        clear hI hP hk5 hb45 hR5 bx5 hb5 hj8 hiM r1 PC
        go_wp2_with (first | (refine wpList_load_mid rfl 55 (.tmp 7) rfl gx 0 rfl IC _ r5 Tryd.underlying55 rfl hinf1' ?_) | (refine wpList_store_mid rfl 55 (.tmp 33) (.tmp 32) rfl gB (i * 2) IC.toArray rfl rfl hth hinf1 hone1 ?_))
        go_roundg (n - (j + 1))
        case measure => rw [HG.out]; omega
        case rel => exact ⟨i + 1, j + 1, M.set i s, hlt, by omega, by go_num, by go_num, rfl, H5.out⟩
      · have hI := HM.out.1.skip hj8 (by rw [← HS.out.1]; exact HS.out.2.1.symm)
        have H5 := Lib.hid (And.intro hI (And.intro hR5 hk5))
        clear hI hR5 hk5 hb45 bx5 hb5 hj8 hiM r1 r5 PC
        go_wp2
        go_roundg (n - (j + 1))
        case measure => rw [HG.out]; omega
        case rel => exact ⟨i, j + 1, M, hlt, by omega, by go_num, by go_num, rfl, H5.out⟩
    · obtain rfl : j = n := by omega
      obtain ⟨us, hul, hcl⟩ := run_clear_pairs wr gB (i * 2) (j - i) (cap - i) (by omega) (fun t ht => by
        rw [hcell (i * 2 + t) (by omega), List.getElem?_eq_getElem (by rw [flatP_len]; omega)]; rfl) (fun t ht => hfree _)
      obtain ⟨cs', hR, htk, hk⟩ := RowV.sets us (i * 2) HM.out.2.1 (by rw [hul]; omega)
      have hE := HM.out.1
      rw [HN.out] at hE
      have hF := hE.fin
      have hRR := hR.fewer (m := i) (by omega)
      rw [htk, flatP_take, hF.1] at hRR
      have H2 := Lib.hid (And.intro hRR (And.intro (HM.out.2.2.trans hk) hF.2))
      clear hRR hk hF hE htk hR cs' hcell hfree hml hul
      generalize wr.setCells gB (i * 2) us = w3 at *
      have s2 : i ≤ j := by omega
      have s4 : i < cap := by omega
      have s5 : i ≤ cap := by omega
      go_wp2
      go_ret
      rw [← H2.out.2.2]
      exact ⟨rfl, H2.out.1, H2.out.2.1⟩
end Go.Proofs.YtbjbjgfjaopibaaDoor
end
