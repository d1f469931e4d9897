import Derived.Test.YtbjbjgfjaopibaaDoorPu19
section
/- JournalHalts: the law's walk. -/
namespace Go.Proofs.YtbjbjgfjaopibaaDoor
open Go Go.RowKit
set_option linter.unusedSimpArgs false
set_option linter.unusedVariables false
set_option maxRecDepth 100000

theorem LstAt.keepG {α : Type} {K : EKind α} {e : TypeId} {w w' : World} {G : Nat} {v : Value} {X : List α} (h : LstAt K e w G v X) (hk : Keep (fun k => k < G) w w') : LstAt K e w' G v X := by
  obtain ⟨o, h1, h2, h3⟩ := h
  exact ⟨o, h1.keep hk (fun g hg hlt => by have := h2 g hg; omega), h2, fun x hx => K.mono (K.keep (h3 x hx) hk (fun b hb hlt => by have := hb.1; omega)) (fun b hb => ⟨hb.1, Nat.lt_of_lt_of_le hb.2.1 hk.size, hb.2.2⟩)⟩
/-- the batch of nothing -/
def bat0 : BatchD := ⟨⟨none, 0, 0, fun _ => ⟨⟨#[]⟩, ⟨none, 0, []⟩⟩⟩, ⟨none, 0, 0, fun _ => ⟨#[]⟩⟩⟩
theorem bat0_ok (w : World) : BatOk w bat0 :=
  ⟨⟨Nat.le_refl _, ⟨Nat.zero_le _, by decide⟩, fun _ => rfl, fun i hi => absurd hi (Nat.not_lt_zero i)⟩, ⟨Nat.le_refl _, ⟨Nat.zero_le _, by decide⟩, fun _ => rfl, fun i hi => absurd hi (Nat.not_lt_zero i)⟩⟩
theorem bat0_can : CanB (batX bat0) := ⟨by decide, by decide, fun p hp => absurd hp (by simp [batX, bat0]), fun p hp => absurd hp (by simp [batX, bat0]), by decide⟩
theorem opn_nil (ro : Int) : opnS [] 0 ro (-1) = (0, ⟨[], 0, ro, -1, [], 0, false⟩) := by
  have h := opens_eq (xs := []) (r := []) (fun x hx => by cases hx) Byt.nil nil_none
  change opens [] = ([], 0) at h
  unfold opnS
  rw [h, if_neg (fun f => absurd f.2 (by decide))]
  rfl
theorem com_free {s : JS} {x : BatD} (h1 : s.fu = -1) (h2 : s.hd = false) (h3 : (s.xs.length : Int) + 1048588 ≤ s.ro) :
    (comS s x).2.fu = -1 ∧ (comS s x).2.ro = s.ro ∧ (comS s x).2.hd = false ∧ (comS s x).2.xs.length ≤ s.xs.length + 1048588 := by
  unfold comS
  by_cases hc : CanB x
  · have hl : (frmX x).length ≤ 1048588 := by have := hc.len; unfold frmX; rw [frmB_len]; omega
    have ha : appE s.xs.length (frmX x).length s.ro s.fu = 0 := by unfold appE; rw [h1, if_neg (by decide), if_neg (by omega)]
    have hb : burnE (burn s.fu) = 0 := by rw [h1]; rfl
    rw [if_neg (fun f => f hc), if_neg (by rw [h2]; decide), if_neg (fun f => f ha), if_neg (fun f => f hb)]
    exact ⟨by show burn (burn s.fu) = -1; rw [h1]; rfl, rfl, h2, by show (s.xs ++ frmX x).length ≤ _; rw [List.length_append]; omega⟩
  · rw [if_pos hc]; exact ⟨h1, rfl, h2, Nat.le_add_right _ _⟩
theorem com_full {s : JS} {x : BatD} (h1 : s.fu = -1) (h2 : s.hd = false) (h3 : s.ro = s.xs.length) (hc : CanB x) : comS s x = (4, { s with fu := -1, hd := true }) := by
  have hl := frmX_pos x
  have ha : appE s.xs.length (frmX x).length s.ro s.fu = 4 := by unfold appE; rw [h1, if_neg (by decide), if_pos (by omega)]
  unfold comS
  rw [if_neg (fun f => f hc), if_neg (by rw [h2]; decide), if_pos (by rw [ha]; decide), ha, h1]
  rfl
theorem com_halt {s : JS} (x : BatD) (h : s.hd = true) : ((comS s x).1 = 210 ∨ (comS s x).1 = 1) ∧ (comS s x).2 = s ∧ (CanB x → (comS s x).1 = 210) := by
  unfold comS
  by_cases hc : CanB x
  · rw [if_neg (fun f => f hc), if_pos h]; exact ⟨.inl rfl, rfl, fun _ => rfl⟩
  · rw [if_pos hc]; exact ⟨.inr rfl, rfl, fun h => absurd h hc⟩
theorem jw_room {W w : World} {j b p : Nat} {o : Option Nat} {s : JS} (h : JW W w j b p o s) {n : Int} (h0 : 0 ≤ n) (h1 : n ≤ 16777216) :
    Calls Tryd.prog 16 #[.pointer (some ⟨p, 0, none⟩), .int .i64 n] w fun e w' => e = .returned (.int .i64 0) ∧ JW W w' j b p o { s with ro := n } ∧ Keep (foot p o) w w' := by
  refine (troom p s.xs s.sy s.ro s.fu n o w h.tape).mono ?_
  rintro e w1 ⟨rfl, ht, hk⟩
  have e1 : roomE n = 0 := by unfold roomE; rw [if_neg (by omega)]
  have e2 : roomN n s.ro = n := by unfold roomN; rw [if_neg (by omega)]
  rw [e2] at ht
  refine ⟨by rw [e1], ⟨h.bel.trans (hk.below h.bel.size (fun k hk => (h.ft k hk).1)), h.glob, ⟨h.ok.srt, h.ok.kv, h.ok.byt, h.ok.len, h0, h1, h.ok.f0, h.ok.f1, h.ok.y0, h.ok.y1, h.ok.ll, h.ok.nn⟩, ht, ?_, h.own, h.ft⟩, hk⟩
  exact h.jat.keep hk (fun hf => (h.ft _ hf).2.1 rfl) (fun hf => (h.ft _ hf).2.2 rfl) (fun g hg _ hf => hg.2.1 hf)
theorem jw_contents {W w : World} {j b p : Nat} {o : Option Nat} {s : JS} (h : JW W w j b p o s) :
    Calls Tryd.prog 15 #[.pointer (some ⟨j, 0, none⟩)] w fun e w' => Below w.heap.size w w' ∧ ∃ (q : Option Addr) (c : Nat) (X : List PairD), e = .returned (.slice q X.length c) ∧ LstAt pairK 55 w' w.heap.size (.slice q X.length c) X ∧ X.map pairX = s.l :=
  pcontents j b p s.l s.n s.hd _ w h.jat h.ok.srt h.ok.kv (by have := h.ok.ll; have := h.ok.len; omega)
theorem bat_one (x : BatchD) : ∀ u ∈ batCs x, u.oneCell' = true := fun u hu => by
  simp only [batCs, List.mem_cons, List.not_mem_nil, or_false] at hu
  rcases hu with rfl | rfl <;> rfl
theorem far_step {B : Nat} {w6 w w' : World} {p j b : Nat} {o : Option Nat} (hk : Keep (fun g => g < B) w6 w) (h2 : Keep (fun k => foot p o k ∨ k = j ∨ k = b) w w') (hf : ∀ g, foot p o g → g < B ∨ w6.heap.size ≤ g) (hj : j < B) (hb : b < B) : Keep (fun g => g < B) w6 w' :=
  hk.trans' h2 fun g hg => by
    rcases hg with hg | rfl | rfl
    · exact hf g hg
    · exact .inl hj
    · exact .inl hb
theorem far_foot {B : Nat} {w6 w : World} {p : Nat} {o o' : Option Nat} (hk : Keep (fun g => g < B) w6 w) (ho : o' = o ∨ ∃ g, o' = some g ∧ w.heap.size ≤ g) (hf : ∀ g, foot p o g → g < B ∨ w6.heap.size ≤ g) : ∀ g, foot p o' g → g < B ∨ w6.heap.size ≤ g := fun g hg => by
  rcases foot_new ho hg with h | h
  · exact hf g h
  · exact .inr (Nat.le_trans hk.size h)
set_option maxHeartbeats 12800000 in
theorem halts_walk (a : Option Addr) (n c : Nat) (X : Nat → BatchD) (x : BatchD) (W : World) (G : Glob W) (hX : ElemsIn W a n 2 batCs BatOk X) (hn : n ≤ 140737488351232) (hx : BatOk W x) :
    Calls Tryd.prog 4 #[.slice a n c, .agg (batCs x).toArray] W fun e w' => e = .returned (.bool true) ∧ Below W.heap.size W w' := by
  have k0 := (Below.refl W.heap.size W).alloc (Nat.le_refl _) (.cells (batCs x).toArray 25)
  have bn := Blk.new W (batCs x).toArray 25
  obtain ⟨IX, hIX⟩ : ∃ IX, IX = batCs x := ⟨_, rfl⟩
  rw [← hIX] at k0 bn ⊢
  have HIX := Lib.hid hIX
  have HX := Lib.hid (And.intro hX k0)
  have HBX := Lib.hid (And.intro bn (And.intro hx G))
  have hinf0 : (Tryd.prog.info? 25).map (·.size) = some IX.length := by rw [hIX]; kernel_rfl
  have hone0 : IX.toArray.all (·.oneCell') = true := by rw [hIX]; exact arr_oneJ (bat_one x)
  clear hX hx G k0 bn hIX
  go_enter Tryd.func4, Tryd.ntmps4
  go_upto_region 1 with fail
  generalize W.alloc (.cells IX.toArray 25) = w0 at *
  have PN := Lib.hid (tnew 16777216 w0 (by decide) (by decide))
  go_wp2_with fail
  refine PN.out.mono ?_
  rintro e w1 ⟨p, o, rfl, hT, hp, ho, hb1⟩
  have hTW : TW w0 w1 p o [] 0 16777216 (-1) := ⟨hb1, HBX.out.2.2.below HX.out.2, Byt.nil, by decide, by decide, by decide, by decide, by decide, by decide, by decide, hT, fun k hk => by
    rcases hk with rfl | hk
    · exact hp
    · exact ho k hk⟩
  have PO := jw_open hTW
  rw [opn_nil] at PO
  have PO := Lib.hid PO
  clear hT hp ho hb1 hTW
  go_wp2_with fail
  refine PO.out.mono ?_
  rintro e w2 ⟨k2, ⟨h150, _⟩ | ⟨_, j, b, rfl, hj, hb, hJ, hW⟩⟩
  · exact absurd h150 (by decide)
  have HW := Lib.hid hW
  clear k2 hj hb hJ hW
  go_wp2
  go_loopg [29] n (fun gh i wx => ∃ (k : Nat) (o : Option Nat) (s : JS), k ≤ n ∧ i = .int .i64 (k : Int) ∧ gh = n - k ∧ Hid (JW w0 wx j b p o s ∧ s.fu = -1 ∧ s.ro = 16777216 ∧ s.hd = false ∧ s.xs.length ≤ min k 8 * 1048588))
  case atStart => exact ⟨0, o, _, Nat.zero_le _, rfl, rfl, HW.out, rfl, rfl, rfl, Nat.zero_le _⟩
  case round =>
    obtain ⟨k, o, s, hk, rfl, hg, HK⟩ := hrel
    have HG := Lib.hid hg
    clear hg
    by_cases hlt : k < n
    rotate_left
    · obtain rfl : k = n := by omega
      have PC := Lib.hid (jw_contents HK.out.1)
      go_wp2_with fail
      refine PC.out.mono ?_
      rintro e w6 ⟨hb6, q6, c6, X6, rfl, hL6, hX6⟩
      have HJ6 := HK.out.1.more hb6
      have H6 := Lib.hid (And.intro hL6 (And.intro hX6 HJ6))
      have PH := Lib.hid (jhalted j ⟨p, 0, none⟩ _ _ _ w6 HJ6.jat.1)
      have PB := Lib.hid (tbytes p s.xs s.sy s.ro s.fu o w6 HJ6.tape (by have := HJ6.ok.len; omega))
      rw [HK.out.2.2.2.1] at PH
      clear hb6 hL6 hX6 HJ6 PC
      obtain ⟨xl, hxl⟩ : ∃ xl, xl = s.xs.length := ⟨_, rfl⟩
      rw [← hxl] at PB
      have HXL := Lib.hid hxl
      clear hxl
      generalize hn6 : X6.length = n6 at *
      have HN6 := Lib.hid hn6
      clear hn6
      go_wp2_with fail
      refine PH.out.mono ?_
      rintro e w6' ⟨rfl, hw⟩
      subst w6'
      go_wp2_with fail
      refine PB.out.mono ?_
      rintro e w7 ⟨q7, c7, o7, rfl, _, _, hb7⟩
      have HJ7 := H6.out.2.2.more hb7
      have PR := Lib.hid (jw_room HJ7 (n := (xl : Int)) (by omega) (by rw [HXL.out]; have := HJ7.ok.len; omega))
      clear HJ7
      go_wp2_with fail
      refine PR.out.mono ?_
      rintro e w8 ⟨rfl, HJ8, hk8⟩
      have hk68 : Keep (fun g => g < wr.heap.size) w6 w8 := (Keep.of_below (X := fun g => g < wr.heap.size) hb7).trans' hk8 (fun g hg => .inl (HK.out.1.tape.lt g hg))
      have hc8 := com_full (s := { s with ro := (xl : Int) }) (x := batX bat0) HK.out.2.1 HK.out.2.2.2.1 (by rw [HXL.out]) bat0_can
      have PC := jw_commit HJ8 (bat0_ok _) ((bat0_ok w0).old)
      rw [hc8] at PC
      change Calls Tryd.prog 9 #[.pointer (some ⟨j, 0, none⟩), .agg #[.slice none 0 0, .slice none 0 0]] w8 _ at PC
      have PC := Lib.hid PC
      have H8 := Lib.hid hk68
      clear HJ8 hk68 hk8 hc8 hb7
      go_wp2_with fail
      refine PC.out.mono ?_
      rintro e w9 ⟨o9, rfl, HJ9, hk9, ho9⟩
      have PH := Lib.hid (jhalted j ⟨p, 0, none⟩ _ _ _ w9 HJ9.jat.1)
      have hf8 : ∀ g, foot p o g → g < wr.heap.size ∨ w6.heap.size ≤ g := fun g hg => .inl (HK.out.1.tape.lt g hg)
      have hK9 := far_step H8.out hk9 hf8 HK.out.1.jat.lt.1 HK.out.1.jat.lt.2
      have hf9 := far_foot H8.out ho9 hf8
      have H9 := Lib.hid (And.intro HJ9 (And.intro hK9 hf9))
      clear HJ9 hK9 hf9 hk9 ho9 H8 hf8
      go_wp2_with fail
      refine PH.out.mono ?_
      rintro e w9' ⟨rfl, hw⟩
      subst w9'
      have bn9 := HBX.out.1.beyond H9.out.1.bel
      have r9 := cells_rangeJ (w := w9) (b := W.heap.size) (o := 0) (cs := IX) (fun t ht => by rw [Nat.zero_add, bn9.cell, List.getElem?_toArray])
      have PC := jw_commit H9.out.1 (HBX.out.2.1.below (HX.out.2.trans (H9.out.1.bel.mono HX.out.2.size))) (HBX.out.2.1.old.mono fun g hg => Nat.lt_of_lt_of_le hg HX.out.2.size)
      obtain ⟨hch, hcs, _⟩ := com_halt (s := { { s with ro := (xl : Int) } with fu := -1, hd := true }) (batX x) rfl
      rw [hcs, ← HIX.out] at PC
      generalize (comS { { s with ro := (xl : Int) } with fu := -1, hd := true } (batX x)).1 = rr at *
      have PC := Lib.hid PC
      clear bn9 hcs
      go_wp2_with (first | (refine wpList_load_mid rfl 25 (.tmp 3) rfl W.heap.size 0 rfl IX _ r9 Tryd.underlying25 rfl hinf0 ?_))
      refine PC.out.mono ?_
      rintro e w10 ⟨o10, rfl, HJ10, hk10, ho10⟩
      have hK10 := far_step H9.out.2.1 hk10 H9.out.2.2 HK.out.1.jat.lt.1 HK.out.1.jat.lt.2
      have hf10 := far_foot H9.out.2.1 ho10 H9.out.2.2
      have PR := Lib.hid (jw_room HJ10 (n := 16777216) (by decide) (by decide))
      have H10 := Lib.hid (And.intro HJ10 (And.intro hK10 hf10))
      clear HJ10 hK10 hf10 hk10 ho10 H9 r9 PC
      have hrr : (rr == 210) = true ∨ ((rr == 210) = false ∧ (rr == 1) = true) := by
        rcases hch with h | h
        · rw [h]; exact .inl rfl
        · rw [h]; exact .inr ⟨rfl, rfl⟩
      clear hch
      rcases hrr with hr1 | ⟨hr1, hr2⟩
      all_goals
        go_wp2_with fail
        refine PR.out.mono ?_
        rintro e w11 ⟨rfl, HJ11, hk11⟩
        have hK11 := H10.out.2.1.trans' hk11 H10.out.2.2
        have PC := jw_commit HJ11 (bat0_ok _) ((bat0_ok w0).old)
        obtain ⟨_, hcs, hch⟩ := com_halt (s := { { { s with ro := (xl : Int) } with fu := -1, hd := true } with ro := 16777216 }) (batX bat0) rfl
        have hch := hch bat0_can
        rw [hcs, hch] at PC
        change Calls Tryd.prog 9 #[.pointer (some ⟨j, 0, none⟩), .agg #[.slice none 0 0, .slice none 0 0]] w11 _ at PC
        have PC := Lib.hid PC
        have H11 := Lib.hid hK11
        clear hK11 hcs hch hk11 HJ11
        go_wp2_with fail
        refine PC.out.mono ?_
        rintro e w12 ⟨o12, rfl, HJ12, hk12, ho12⟩
        have hK12 := far_step H11.out hk12 H10.out.2.2 HK.out.1.jat.lt.1 HK.out.1.jat.lt.2
        have PT := Lib.hid (jw_contents HJ12)
        have H12 := Lib.hid (And.intro HJ12 hK12)
        clear HJ12 hK12 hk12 ho12 PC
        go_wp2_with fail
        refine PT.out.mono ?_
        rintro e w13 ⟨hb13, q13, c13, X13, rfl, hL13, hX13⟩
        have hL6 := H6.out.1.keepG (H12.out.2.trans (Keep.of_below (X := fun g => g < wr.heap.size) hb13))
        rw [← HN6.out] at hL6
        have hE : X13.map pairX = X6.map pairX := hX13.trans H6.out.2.1.symm
        have hll : s.l.length ≤ 1000000000000 := by have h1 := HK.out.1.ok.ll; have h2 := HK.out.1.ok.len; omega
        have PS := psame hL13 hL6 (by have h1 := congrArg List.length hX13; rw [List.length_map] at h1; rw [h1]; exact hll) (by have h1 := congrArg List.length H6.out.2.1; rw [List.length_map] at h1; rw [h1]; exact hll)
        clear hll
        rw [HN6.out] at PS
        have HF := Lib.hid (And.intro hE (HX.out.2.trans ((H12.out.1.bel.trans (hb13.mono H12.out.1.bel.size)).mono HX.out.2.size)))
        have PS := Lib.hid PS
        clear hL6 hL13 hE hb13 hX13
        generalize X13.length = n13 at *
        go_wp2_with fail
        refine PS.out.mono ?_
        rintro e w14 ⟨bb, rfl, hbb, hb14⟩
        obtain rfl : bb = true := hbb HF.out.1
        have HG14 := Lib.hid (HF.out.2.trans (hb14.mono HF.out.2.size))
        clear hbb hb14
        go_wp2
        go_ret
        exact ⟨rfl, HG14.out⟩
    obtain ⟨b', o', rfl, hcl, hca, hok⟩ := HX.out.1 k hlt
    have hbo := hok.old
    obtain ⟨IC, hIC⟩ : ∃ IC, IC = batCs (X k) := ⟨_, rfl⟩
    rw [← hIC] at hcl hca
    have hone1 : IC.toArray.all (·.oneCell') = true := by rw [hIC]; exact arr_oneJ (bat_one _)
    have HIC := Lib.hid (And.intro hIC (And.intro hok hbo))
    clear hIC hok hbo
    have hsa1 : IC.toArray.size = 2 := by rw [List.size_toArray]; exact hcl
    have hr1 := cells_rangeJ (hca.below (HX.out.2.trans (HK.out.1.bel.mono HX.out.2.size)))
    have bz := Blk.new wr #[.slice none 0 0, .slice none 0 0] 25
    have kz := (Below.refl wr.heap.size wr).alloc (Nat.le_refl _) (.cells #[.slice none 0 0, .slice none 0 0] 25)
    have hinf1 : (Tryd.prog.info? 25).map (·.size) = some IC.toArray.size := by rw [hsa1]; kernel_rfl
    have hinf1' : (Tryd.prog.info? 25).map (·.size) = some IC.length := by rw [hcl]; kernel_rfl
    have hsz1 : (#[.slice none 0 0, .slice none 0 0] : Array Value).size = IC.toArray.size := by rw [hsa1]; rfl
    have bx := bz.setAll IC.toArray hsz1
    have kx := below_setCells (B := wr.heap.size) (g := wr.heap.size) (Nat.le_refl _) IC.toArray.toList 0 (wr.alloc (.cells #[.slice none 0 0, .slice none 0 0] 25)) kz
    clear hca kz hcl hsa1
    go_upto_region 8 with (first | (refine wpList_load_mid rfl 25 (.tmp 32) rfl b' (o' + k * 2) rfl IC _ hr1 Tryd.underlying25 rfl hinf1' ?_) | (refine wpl_store rfl 25 (.tmp 10) (.tmp 33) rfl rfl rfl bz hsz1 hinf1 hone1 ?_))
    rw [List.toList_toArray] at kx bx
    change Blk ((wr.alloc (.cells #[.slice none 0 0, .slice none 0 0] 25)).setCells wr.heap.size 0 IC) wr.heap.size IC.toArray 25 at bx
    clear bz hr1
    generalize (wr.alloc (.cells #[.slice none 0 0, .slice none 0 0] 25)).setCells wr.heap.size 0 IC = w4 at *
    generalize hgx : wr.heap.size = gx at *
    have hb4 : Below wr.heap.size wr w4 := by rw [hgx]; exact kx
    have HJ4 := Lib.hid (HK.out.1.more hb4)
    have r1 := cells_rangeJ (w := w4) (b := gx) (o := 0) (cs := IC) (fun t ht => by rw [Nat.zero_add, bx.cell, List.getElem?_toArray])
    have HB4 := Lib.hid hb4
    clear hb4 kx bx
    have HXk := Lib.hid (HX.out.2.trans (HJ4.out.bel.mono HX.out.2.size))
    by_cases h8 : k < 8
    · have PC := jw_commit (X := X k) HJ4.out (HIC.out.2.1.below HXk.out) (HIC.out.2.2.mono fun g hg => by have := HX.out.2.size; omega)
      rw [← HIC.out.1] at PC
      have PC := Lib.hid PC
      have h8' : ((k : Int) < 8) := by omega
      go_wp2_with (first | (refine wpList_load_mid rfl 25 (.tmp 10) rfl gx 0 rfl IC _ r1 Tryd.underlying25 rfl hinf1' ?_))
      refine PC.out.mono ?_
      rintro e w5 ⟨o5, rfl, hJ5, _, _⟩
      have hcf := com_free (x := batX (X k)) HK.out.2.1 HK.out.2.2.2.1 (by have := HK.out.2.2.2.2; have := HK.out.2.2.1; omega)
      have H5 := Lib.hid (And.intro hJ5 hcf)
      clear hJ5 hcf PC r1
      go_wp2
      go_roundg (n - (k + 1))
      case measure => rw [HG.out]; omega
      case rel =>
        have hlen : (comS s (batX (X k))).2.xs.length ≤ min (k + 1) 8 * 1048588 := by
          have h1 := H5.out.2.2.2.2
          have h2 := HK.out.2.2.2.2
          rw [Nat.min_eq_left (by omega)] at h2
          rw [Nat.min_eq_left (by omega), Nat.add_mul]
          omega
        exact ⟨k + 1, o5, (comS s (batX (X k))).2, hlt, by go_num, rfl, H5.out.1, H5.out.2.1, H5.out.2.2.1.trans HK.out.2.2.1, H5.out.2.2.2.1, hlen⟩
    · have h8' : ¬ ((k : Int) < 8) := by omega
      clear r1
      go_wp2
      go_roundg (n - (k + 1))
      case measure => rw [HG.out]; omega
      case rel =>
        have hlen : s.xs.length ≤ min (k + 1) 8 * 1048588 := by
          have h2 := HK.out.2.2.2.2
          rw [Nat.min_eq_right (by omega)] at h2
          rw [Nat.min_eq_right (by omega)]
          exact h2
        exact ⟨k + 1, o, s, hlt, by go_num, rfl, HJ4.out, HK.out.2.1, HK.out.2.2.1, HK.out.2.2.2.1, hlen⟩
end Go.Proofs.YtbjbjgfjaopibaaDoor
end

section
/- JournalTwice: the law's walk. -/
namespace Go.Proofs.YtbjbjgfjaopibaaDoor
open Go Go.RowKit
set_option linter.unusedSimpArgs false
set_option linter.unusedVariables false
set_option maxRecDepth 100000

theorem fit_of {w : World} {X : BatchD} (hX : BatOk w X) (hc : CanB (batX X)) : Fit (batX X) := ⟨hc, fun q hq => by
  obtain ⟨i, hi, rfl⟩ := List.mem_map.1 hq
  obtain ⟨_, _, _, _, _, hok⟩ := hX.1.2.2.2 i (List.mem_range.1 hi)
  exact hok.2.1.range⟩
/-- a journal says what its tape's batches come to -/
def JLog (s : JS) : Prop := (∃ DB : List BatD, (∀ x ∈ DB, Fit x) ∧ s.xs = DB.flatMap frmX ∧ s.l = doAll [] DB ∧ s.n = DB.length) ∧ s.sy = s.xs.length
theorem opn_free {xs : List Int} (hb : Byt xs) (ro : Int) : (opnS xs xs.length ro (-1)).1 = 0 ∧ (opnS xs xs.length ro (-1)).2.fu = -1 ∧ (opnS xs xs.length ro (-1)).2.ro = ro ∧ (opnS xs xs.length ro (-1)).2.hd = false ∧ (opnS xs xs.length ro (-1)).2.xs.length ≤ xs.length ∧ JLog (opnS xs xs.length ro (-1)).2 := by
  obtain ⟨DB, r, hfit, hr, hno, rfl⟩ := opens_split hb
  have hop := opens_eq hfit hr hno
  have e1 : ∀ sy : Int, opnS (DB.flatMap frmX ++ r) sy ro (-1) = (0, ⟨DB.flatMap frmX, if (DB.flatMap frmX).length = (DB.flatMap frmX ++ r).length then sy else ((DB.flatMap frmX).length : Int), ro, if (DB.flatMap frmX).length = (DB.flatMap frmX ++ r).length then -1 else burn (-1), doAll [] DB, DB.length, false⟩) := fun sy => by
    unfold opnS
    rw [hop, if_neg (fun f => absurd f.2 (by decide)), List.take_left' rfl]
  rw [e1]
  refine ⟨rfl, ?_, rfl, rfl, by show (DB.flatMap frmX).length ≤ _; rw [List.length_append]; omega, ⟨DB, hfit, rfl, rfl, rfl⟩, ?_⟩
  · show (if _ then (-1 : Int) else burn (-1)) = -1
    split <;> rfl
  · show (if _ then _ else _) = ((DB.flatMap frmX).length : Int)
    split
    · next h => rw [h]
    · rfl
theorem com_log {s : JS} {x : BatD} (h1 : s.fu = -1) (h2 : s.hd = false) (h3 : (s.xs.length : Int) + 1048588 ≤ s.ro) (hL : JLog s) (hx : CanB x → Fit x) : JLog (comS s x).2 := by
  unfold comS
  by_cases hc : CanB x
  · have hl : (frmX x).length ≤ 1048588 := by have := hc.len; unfold frmX; rw [frmB_len]; omega
    have ha : appE s.xs.length (frmX x).length s.ro s.fu = 0 := by unfold appE; rw [h1, if_neg (by decide), if_neg (by omega)]
    have hb : burnE (burn s.fu) = 0 := by rw [h1]; rfl
    rw [if_neg (fun f => f hc), if_neg (by rw [h2]; decide), if_neg (fun f => f ha), if_neg (fun f => f hb)]
    obtain ⟨⟨DB, hf, e1, e2, e3⟩, e4⟩ := hL
    refine ⟨⟨DB ++ [x], fun y hy => ?_, ?_, ?_, ?_⟩, rfl⟩
    · rcases List.mem_append.1 hy with h | h
      · exact hf y h
      · rw [List.mem_singleton.1 h]; exact hx hc
    · show s.xs ++ frmX x = _
      rw [List.flatMap_append, List.flatMap_singleton, e1]
    · show doK s.l x = _
      rw [doAll_snoc, e2]
    · show s.n + 1 = _
      rw [List.length_append, e3]; rfl
  · rw [if_pos hc]; exact hL
theorem opn_log {s : JS} (h1 : s.fu = -1) (h2 : s.hd = false) (hL : JLog s) : opnS s.xs s.sy s.ro s.fu = (0, s) := by
  obtain ⟨xs, sy, ro, fu, l, n, hd⟩ := s
  obtain ⟨⟨DB, hf, e1, e2, e3⟩, e4⟩ := hL
  obtain rfl : fu = -1 := h1
  obtain rfl : hd = false := h2
  have h := opens_eq (xs := DB) (r := []) hf Byt.nil nil_none
  rw [List.append_nil] at h
  change xs = _ at e1
  change l = _ at e2
  change n = _ at e3
  show opnS xs sy ro (-1) = _
  unfold opnS
  rw [e1, h, if_neg (fun f => absurd f.2 (by decide)), if_pos rfl, if_pos rfl, e2, e3, List.take_length]
theorem com_ok {s : JS} {x : BatD} (h1 : s.fu = -1) (h2 : s.hd = false) (h3 : (s.xs.length : Int) + 1048588 ≤ s.ro) (hc : CanB x) : (comS s x).1 = 0 ∧ (comS s x).2.n = s.n + 1 := by
  unfold comS
  have hl : (frmX x).length ≤ 1048588 := by have := hc.len; unfold frmX; rw [frmB_len]; omega
  have ha : appE s.xs.length (frmX x).length s.ro s.fu = 0 := by unfold appE; rw [h1, if_neg (by decide), if_neg (by omega)]
  have hb : burnE (burn s.fu) = 0 := by rw [h1]; rfl
  rw [if_neg (fun f => f hc), if_neg (by rw [h2]; decide), if_neg (fun f => f ha), if_neg (fun f => f hb)]
  exact ⟨rfl, rfl⟩
theorem JW.keep {W w w' : World} {j b p : Nat} {o : Option Nat} {s : JS} (h : JW W w j b p o s) (ht : TapeAt w' p s.xs s.sy s.ro s.fu o) (hk : Keep (foot p o) w w') : JW W w' j b p o s :=
  ⟨h.bel.trans (hk.below h.bel.size (fun k hk => (h.ft k hk).1)), h.glob, h.ok, ht, h.jat.keep hk (fun hf => (h.ft _ hf).2.1 rfl) (fun hf => (h.ft _ hf).2.2 rfl) (fun g hg _ hf => hg.2.1 hf), h.own, h.ft⟩
set_option maxHeartbeats 12800000 in
theorem twice_walk (q : Option Addr) (len cap : Nat) (zs : List Int) (a : Option Addr) (n c : Nat) (X : Nat → BatchD) (W : World) (G : Glob W) (hz : min (len : Int) 5000 = (zs.length : Int)) (hlen : len ≤ 9223372036854775807) (hcap : zs.length ≤ cap) (hy : Lib.BytesIn W q zs.length zs) (hb : Byt zs) (hX : ElemsIn W a n 2 batCs BatOk X) (hn : n ≤ 140737488351232) :
    Calls Tryd.prog 6 #[.slice q len cap, .slice a n c] W fun e w' => e = .returned (.bool true) ∧ Below W.heap.size W w' := by
  have hz5 : zs.length ≤ 5000 := by omega
  have PN := Lib.hid (tof q cap zs 16777216 W hy (by decide) (by decide) (by omega))
  have HX := Lib.hid (And.intro hX (Below.refl W.heap.size W))
  have HB := Lib.hid (And.intro G hb)
  clear hX G hb hy
  obtain ⟨zl, hzl⟩ : ∃ zl, zl = zs.length := ⟨_, rfl⟩
  rw [← hzl] at hz hz5 hcap PN
  have HZ := Lib.hid hzl
  clear hzl
  go_enter Tryd.func6, Tryd.ntmps6
  go_upto_region 2 with fail
  clear hz
  go_wp2_with fail
  refine PN.out.mono ?_
  rintro e w1 ⟨p, o, rfl, hT, hp, ho, hb1⟩
  rw [HZ.out] at hT
  have hTW : TW W w1 p o zs zs.length 16777216 (-1) := ⟨hb1, HB.out.1, HB.out.2, by rw [← HZ.out]; omega, by decide, by decide, by decide, by decide, by omega, Int.le_refl _, hT, fun k hk => by
    rcases hk with rfl | hk
    · exact hp
    · exact ho k hk⟩
  have PO := jw_open hTW
  obtain ⟨h0, hF⟩ := opn_free HB.out.2 16777216
  rw [h0] at PO
  generalize hs0 : (opnS zs zs.length 16777216 (-1)).2 = s0 at *
  have PO := Lib.hid PO
  have HF := Lib.hid hF
  clear hT hp ho hb1 hTW h0 hF hs0
  go_wp2_with fail
  refine PO.out.mono ?_
  rintro e w2 ⟨k2, ⟨h150, _⟩ | ⟨_, j, b, rfl, hj, hb, hJ, hW⟩⟩
  · exact absurd h150 (by decide)
  have HW := Lib.hid hW
  clear k2 hj hb hJ hW
  go_wp2
  go_loopg [33] n (fun gh i wx => ∃ (k : Nat) (o : Option Nat) (s : JS), k ≤ n ∧ i = .int .i64 (k : Int) ∧ gh = n - k ∧ Hid (JW W wx j b p o s ∧ s.fu = -1 ∧ s.ro = 16777216 ∧ s.hd = false ∧ s.xs.length ≤ 5000 + min k 10 * 1048588 ∧ JLog s))
  case atStart => exact ⟨0, o, s0, Nat.zero_le _, rfl, rfl, HW.out, HF.out.1, HF.out.2.1, HF.out.2.2.1, Nat.le_trans (HZ.out ▸ HF.out.2.2.2.1) (Nat.le_trans hz5 (Nat.le_add_right _ _)), HF.out.2.2.2.2⟩
  case round =>
    obtain ⟨k, o, s, hk, rfl, hg, HK⟩ := hrel
    have HG := Lib.hid hg
    clear hg
    by_cases hlt : k < n
    rotate_left
    · obtain rfl : k = n := by omega
      have PB := Lib.hid (tbytes p s.xs s.sy s.ro s.fu o wr HK.out.1.tape (by have := HK.out.1.ok.len; omega))
      obtain ⟨xl, hxl⟩ : ∃ xl, xl = s.xs.length := ⟨_, rfl⟩
      rw [← hxl] at PB
      have HXL := Lib.hid hxl
      clear hxl
      go_wp2_with fail
      refine PB.out.mono ?_
      rintro e w7 ⟨q7, c7, o7, rfl, hR7, ho7, hb7⟩
      have HJ7 := HK.out.1.more hb7
      have PO := jw_open HJ7.tw
      rw [opn_log HK.out.2.1 HK.out.2.2.2.1 HK.out.2.2.2.2.2] at PO
      have PO := Lib.hid PO
      have H7 := Lib.hid (And.intro HJ7 (And.intro hR7 ho7))
      clear HJ7 hR7 ho7 hb7 PB
      go_wp2_with fail
      refine PO.out.mono ?_
      rintro e w8 ⟨k8, ⟨h150, _⟩ | ⟨_, j2, b2, rfl, hj2, hb2, _, hW2⟩⟩
      · exact absurd h150 (by decide)
      have HJ8 := H7.out.1.keep hW2.tape k8
      have hR8 : Row w8 5 (.slice q7 s.xs.length c7) s.xs o7 := by
        rw [← HXL.out]
        exact H7.out.2.1.keep k8 (fun g hg hf => by have := H7.out.2.2 g hg; have := HK.out.1.tape.lt g hf; omega)
      have hjl := H7.out.1.jat.lt
      have hbl2 : Blk w8 j2 #[.pointer (some ⟨p, 0, none⟩), .map (some b2), .int .i64 (s.n : Int), .bool s.hd] 30 := hW2.jat.1
      have hne2 : j2 ≠ j ∧ j2 ≠ b ∧ ∀ g, foot p o g → j2 ≠ g := ⟨by omega, by omega, fun g hg => by have := H7.out.1.tape.lt g hg; omega⟩
      have PT := Lib.hid (jw_contents HJ8)
      have H8 := Lib.hid (And.intro HJ8 (And.intro hW2 (And.intro hR8 (And.intro hbl2 hne2))))
      clear HJ8 hW2 hR8 hbl2 hne2 hj2 hb2 hjl k8 PO
      go_wp2_with fail
      refine PT.out.mono ?_
      rintro e w9 ⟨hb9, q9, c9, X9, rfl, hL9, hX9⟩
      have PT2 := Lib.hid (jw_contents (H8.out.2.1.more hb9))
      have H9 := Lib.hid (And.intro hL9 (And.intro hX9 hb9))
      clear hL9 hX9 hb9 PT
      generalize hn9 : X9.length = n9 at *
      have HN9 := Lib.hid hn9
      clear hn9
      go_wp2_with fail
      refine PT2.out.mono ?_
      rintro e w10 ⟨hb10, q10, c10, X10, rfl, hL10, hX10⟩
      have hL9 := H9.out.1.more hb10
      rw [← HN9.out] at hL9
      have hll : s.l.length ≤ 1000000000000 := by have h1 := HK.out.1.ok.ll; have h2 := HK.out.1.ok.len; omega
      have PS := psame hL9 hL10 (by have h1 := congrArg List.length H9.out.2.1; rw [List.length_map] at h1; rw [h1]; exact hll) (by have h1 := congrArg List.length hX10; rw [List.length_map] at h1; rw [h1]; exact hll)
      rw [HN9.out] at PS
      have H10 := Lib.hid (And.intro (show X9.map pairX = X10.map pairX from H9.out.2.1.trans hX10.symm) (H9.out.2.2.trans (hb10.mono H9.out.2.2.size)))
      have PS := Lib.hid PS
      clear hll hL9 hL10 hX10 hb10 PT2
      generalize X10.length = n10 at *
      go_wp2_with fail
      refine PS.out.mono ?_
      rintro e w11 ⟨bb, rfl, hbb, hb11⟩
      obtain rfl : bb = true := hbb H10.out.1
      have hb811 := H10.out.2.trans (hb11.mono H10.out.2.size)
      have HJ11 := H8.out.1.more hb811
      have hR11 : Row w11 5 (.slice q7 s.xs.length c7) s.xs o7 := H8.out.2.2.1.keep (Keep.of_below (X := fun _ => False) hb811) (fun _ _ h => h)
      have hbl := H8.out.2.2.2.1.beyond hb811
      have PK2 := Lib.hid (jbatches j2 ⟨p, 0, none⟩ _ _ _ w11 hbl)
      have PK1 := Lib.hid (jbatches j ⟨p, 0, none⟩ _ _ _ w11 HJ11.jat.1)
      have PB := tbytes p s.xs s.sy s.ro s.fu o w11 HJ11.tape (by have := HJ11.ok.len; omega)
      rw [← HXL.out] at PB
      have PB := Lib.hid PB
      have H11 := Lib.hid (And.intro HJ11 (And.intro hR11 hbl))
      clear hb811 HJ11 hR11 hbl hbb hb11 PS
      go_wp2_with fail
      refine PK2.out.mono ?_
      rintro e w11' ⟨rfl, hw⟩
      subst w11'
      go_wp2_with fail
      refine PK1.out.mono ?_
      rintro e w11' ⟨rfl, hw⟩
      subst w11'
      have hnn : ((s.n : Int) == (s.n : Int)) = true := beq_self_eq_true _
      go_wp2_with fail
      refine PB.out.mono ?_
      rintro e w12 ⟨q12, c12, o12, rfl, hR12, ho12, hb12⟩
      have HJ12 := H11.out.1.more hb12
      have hR7' : Row w12 5 (.slice q7 s.xs.length c7) s.xs o7 := H11.out.2.1.keep (Keep.of_below (X := fun _ => False) hb12) (fun _ _ h => h)
      have hbl := H11.out.2.2.beyond hb12
      rw [← HXL.out] at hR7'
      have PE := Tryd.bytes_Equal_all q12 q7 xl c12 xl c7 s.xs s.xs w12 HXL.out.symm HXL.out.symm (by obtain ⟨_, _, e2, hy2, _⟩ := hR12.form; cases e2; rw [← HXL.out] at hy2; exact hy2) (by obtain ⟨_, _, e2, hy2, _⟩ := hR7'.form; cases e2; rw [← HXL.out] at hy2; exact hy2)
      rw [beq_self_eq_true] at PE
      have PE := Lib.hid PE
      have PY := tsynced p s.xs s.sy s.ro s.fu o w12 HJ12.tape
      have hsy : s.sy = (xl : Int) := by rw [HXL.out]; exact HK.out.2.2.2.2.2.2
      rw [hsy] at PY
      have PY := Lib.hid PY
      have PC := jw_commit HJ12 (bat0_ok _) ((bat0_ok W).old)
      have hroom : (s.xs.length : Int) + 1048588 ≤ s.ro := by
        have h2 := HK.out.2.2.2.2.1
        have h3 : min k 10 * 1048588 ≤ 10 * 1048588 := Nat.mul_le_mul_right _ (Nat.min_le_right _ _)
        have h4 := HK.out.2.2.1
        have h5 : s.xs.length ≤ 10490880 := Nat.le_trans h2 (Nat.add_le_add_left h3 _)
        clear h2 h3
        rw [h4]
        generalize s.xs.length = sx at *
        omega
      obtain ⟨hc1, hc2⟩ := com_ok (x := batX bat0) HK.out.2.1 HK.out.2.2.2.1 hroom bat0_can
      rw [hc1] at PC
      generalize hs2 : (comS s (batX bat0)).2 = s2 at *
      change Calls Tryd.prog 9 #[.pointer (some ⟨j, 0, none⟩), .agg #[.slice none 0 0, .slice none 0 0]] w12 _ at PC
      have PC := Lib.hid PC
      have H12 := Lib.hid (And.intro hbl (And.intro hc2 HJ12.tape.lt))
      clear HJ12 hR7' hbl hsy hroom hc1 hc2 hs2 hR12 ho12 hb12 PB
      go_wp2_with fail
      refine PE.out.mono ?_
      rintro e w12' ⟨rfl, hw⟩
      subst w12'
      have hxx : ((xl : Int) == (xl : Int)) = true := beq_self_eq_true _
      go_wp2_with fail
      refine PY.out.mono ?_
      rintro e w12' ⟨rfl, hw⟩
      subst w12'
      go_wp2_with fail
      refine PC.out.mono ?_
      rintro e w14 ⟨o14, rfl, HJ14, hk14, _⟩
      have PK1 := jbatches j ⟨p, 0, none⟩ _ _ _ w14 HJ14.jat.1
      rw [H12.out.2.1] at PK1
      have PK1 := Lib.hid PK1
      have hbl := hk14.blk H12.out.1 (fun hf => by
        rcases hf with hf | hf | hf
        · exact H8.out.2.2.2.2.2.2 _ hf rfl
        · exact H8.out.2.2.2.2.1 hf
        · exact H8.out.2.2.2.2.2.1 hf)
      have PK2 := Lib.hid (jbatches j2 ⟨p, 0, none⟩ _ _ _ w14 hbl)
      have HF14 := Lib.hid HJ14.bel
      clear HJ14 hk14 hbl PC
      have hn1 : (((s.n + 1 : Nat) : Int) == (s.n : Int) + 1) = true := by rw [beq_iff_eq]; omega
      have hnb : s.n ≤ 16777216 := Nat.le_trans HK.out.1.ok.nn HK.out.1.ok.len
      go_wp2_with fail
      refine PK1.out.mono ?_
      rintro e w14' ⟨rfl, hw⟩
      subst w14'
      go_wp2_with fail
      refine PK2.out.mono ?_
      rintro e w14' ⟨rfl, hw⟩
      subst w14'
      go_wp2
      go_ret
      exact ⟨rfl, HF14.out⟩
    obtain ⟨b', o', rfl, hcl, hca, hok⟩ := HX.out.1 k hlt
    have hbo := hok.old
    obtain ⟨IC, hIC⟩ : ∃ IC, IC = batCs (X k) := ⟨_, rfl⟩
    rw [← hIC] at hcl hca
    have hone1 : IC.toArray.all (·.oneCell') = true := by rw [hIC]; exact arr_oneJ (bat_one _)
    have HIC := Lib.hid (And.intro hIC (And.intro hok hbo))
    clear hIC hok hbo
    have hsa1 : IC.toArray.size = 2 := by rw [List.size_toArray]; exact hcl
    have hr1 := cells_rangeJ (hca.below (HX.out.2.trans (HK.out.1.bel.mono HX.out.2.size)))
    have bz := Blk.new wr #[.slice none 0 0, .slice none 0 0] 25
    have kz := (Below.refl wr.heap.size wr).alloc (Nat.le_refl _) (.cells #[.slice none 0 0, .slice none 0 0] 25)
    have hinf1 : (Tryd.prog.info? 25).map (·.size) = some IC.toArray.size := by rw [hsa1]; kernel_rfl
    have hinf1' : (Tryd.prog.info? 25).map (·.size) = some IC.length := by rw [hcl]; kernel_rfl
    have hsz1 : (#[.slice none 0 0, .slice none 0 0] : Array Value).size = IC.toArray.size := by rw [hsa1]; rfl
    have bx := bz.setAll IC.toArray hsz1
    have kx := below_setCells (B := wr.heap.size) (g := wr.heap.size) (Nat.le_refl _) IC.toArray.toList 0 (wr.alloc (.cells #[.slice none 0 0, .slice none 0 0] 25)) kz
    clear hca kz hcl hsa1
    go_upto_region 11 with (first | (refine wpList_load_mid rfl 25 (.tmp 36) rfl b' (o' + k * 2) rfl IC _ hr1 Tryd.underlying25 rfl hinf1' ?_) | (refine wpl_store rfl 25 (.tmp 9) (.tmp 37) rfl rfl rfl bz hsz1 hinf1 hone1 ?_))
    rw [List.toList_toArray] at kx bx
    change Blk ((wr.alloc (.cells #[.slice none 0 0, .slice none 0 0] 25)).setCells wr.heap.size 0 IC) wr.heap.size IC.toArray 25 at bx
    clear bz hr1
    generalize (wr.alloc (.cells #[.slice none 0 0, .slice none 0 0] 25)).setCells wr.heap.size 0 IC = w4 at *
    generalize hgx : wr.heap.size = gx at *
    have hb4 : Below wr.heap.size wr w4 := by rw [hgx]; exact kx
    have HJ4 := Lib.hid (HK.out.1.more hb4)
    have r1 := cells_rangeJ (w := w4) (b := gx) (o := 0) (cs := IC) (fun t ht => by rw [Nat.zero_add, bx.cell, List.getElem?_toArray])
    have HB4 := Lib.hid hb4
    clear hb4 kx bx
    have HXk := Lib.hid (HX.out.2.trans (HJ4.out.bel.mono HX.out.2.size))
    by_cases h8 : k < 10
    · have PC := jw_commit (X := X k) HJ4.out (HIC.out.2.1.below HXk.out) (HIC.out.2.2.mono fun g hg => by have := HX.out.2.size; omega)
      rw [← HIC.out.1] at PC
      have PC := Lib.hid PC
      have h8' : ((k : Int) < 10) := by omega
      go_wp2_with (first | (refine wpList_load_mid rfl 25 (.tmp 9) rfl gx 0 rfl IC _ r1 Tryd.underlying25 rfl hinf1' ?_))
      refine PC.out.mono ?_
      rintro e w5 ⟨o5, rfl, hJ5, _, _⟩
      have hroom : (s.xs.length : Int) + 1048588 ≤ s.ro := by
        have h2 := HK.out.2.2.2.2.1
        rw [Nat.min_eq_left (by omega)] at h2
        have := HK.out.2.2.1
        omega
      have hcf := com_free (x := batX (X k)) HK.out.2.1 HK.out.2.2.2.1 hroom
      have hcl := com_log (x := batX (X k)) HK.out.2.1 HK.out.2.2.2.1 hroom HK.out.2.2.2.2.2 (fit_of HIC.out.2.1)
      have H5 := Lib.hid (And.intro hJ5 (And.intro hcf hcl))
      clear hJ5 hcf PC r1 hcl hroom
      go_wp2
      go_roundg (n - (k + 1))
      case measure => rw [HG.out]; omega
      case rel =>
        have hlen : (comS s (batX (X k))).2.xs.length ≤ 5000 + min (k + 1) 10 * 1048588 := by
          have h1 := H5.out.2.1.2.2.2
          have h2 := HK.out.2.2.2.2.1
          have hm1 : min k 10 = k := Nat.min_eq_left (by omega)
          have hm2 : min (k + 1) 10 = k + 1 := Nat.min_eq_left (by omega)
          have hm3 : (k + 1) * 1048588 = k * 1048588 + 1048588 := Nat.succ_mul _ _
          rw [hm1] at h2
          rw [hm2, hm3]
          exact Nat.le_trans h1 (by rw [← Nat.add_assoc]; exact Nat.add_le_add_right h2 _)
        exact ⟨k + 1, o5, (comS s (batX (X k))).2, hlt, by go_num, rfl, H5.out.1, H5.out.2.1.1, H5.out.2.1.2.1.trans HK.out.2.2.1, H5.out.2.1.2.2.1, hlen, H5.out.2.2⟩
    · have h8' : ¬ ((k : Int) < 10) := by omega
      clear r1
      go_wp2
      go_roundg (n - (k + 1))
      case measure => rw [HG.out]; omega
      case rel =>
        have hlen : s.xs.length ≤ 5000 + min (k + 1) 10 * 1048588 := by
          have h2 := HK.out.2.2.2.2.1
          rw [Nat.min_eq_right (by omega)] at h2
          rw [Nat.min_eq_right (by omega)]
          exact h2
        exact ⟨k + 1, o, s, hlt, by go_num, rfl, HJ4.out, HK.out.2.1, HK.out.2.2.1, HK.out.2.2.2.1, hlen, HK.out.2.2.2.2.2⟩
theorem bytes_takeJ {w : World} {q : Option Addr} {n m : Nat} {xs : List Int} (h : Lib.BytesIn w q n xs) (hm : m ≤ n) (hx : xs.length = n) : Lib.BytesIn w q (xs.take m).length (xs.take m) := fun h0 => by
  rw [List.length_take] at h0 ⊢
  obtain ⟨b, o, e1, hc⟩ := h.at (by omega)
  refine ⟨b, o, e1, fun i hi => ?_⟩
  rw [hc i (by omega), List.getD_eq_getElem?_getD, List.getD_eq_getElem?_getD, List.getElem?_take_of_lt (by omega)]
theorem twice_full (q : Option Addr) (cap : Nat) (xs : List Int) (a : Option Addr) (n c : Nat) (X : Nat → BatchD) (W : World) (G : Glob W) (hy : Lib.BytesIn W q xs.length xs) (hl : xs.length ≤ 140737488351232) (hcap : xs.length ≤ cap) (hb : ∀ x ∈ xs, 0 ≤ x ∧ x ≤ 255) (hX : ElemsIn W a n 2 batCs BatOk X) (hn : n ≤ 140737488351232) :
    Calls Tryd.prog 6 #[.slice q xs.length cap, .slice a n c] W fun e w' => e = .returned (.bool true) ∧ Below W.heap.size W w' := by
  have e1 : (xs.take (min xs.length 5000)).length = min xs.length 5000 := by rw [List.length_take]; omega
  exact twice_walk q xs.length cap (xs.take (min xs.length 5000)) a n c X W G (by rw [e1]; omega) (by omega) (by rw [e1]; omega) (bytes_takeJ hy (by omega) rfl) (Byt.take hb _) hX hn
end Go.Proofs.YtbjbjgfjaopibaaDoor
end
