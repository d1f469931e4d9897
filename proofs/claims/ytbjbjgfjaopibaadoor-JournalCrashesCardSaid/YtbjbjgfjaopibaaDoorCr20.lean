import Derived.Test.YtbjbjgfjaopibaaDoorCr19
import Derived.Test.YtbjbjgfjaopibaaDoorCr9
import Derived.Test.YtbjbjgfjaopibaaDoorCr8
import Derived.Test.YtbjbjgfjaopibaaDoorCr6
import Derived.Test.YtbjbjgfjaopibaaDoorRows
import Derived.LaidMore
import Derived.OpenShut
import Derived.SevenTiedAt
import Derived.Stop.Joined
import Derived.Test.YtbjbjgfjaopibaaDoorCards
import Derived.Test.YtbjbjgfjaopibaaDoorTie
import Derived.Test.YtbjbjgfjaopibaaDoorCr3
section
/- JournalCrashes: the law's walk. -/
namespace Go.Proofs.YtbjbjgfjaopibaaDoor
open Go Go.RowKit
set_option linter.unusedSimpArgs false
set_option linter.unusedVariables false
set_option maxRecDepth 100000

/-- what a crash finds -/
structure RInv (W w : World) (j b p : Nat) (o : Option Nat) (s : JS) (q0 : Option Addr) (n0 c0 : Nat) (X0 : List PairD) (q1 : Option Addr) (n1 c1 : Nat) (Y0 : List PairD) : Prop where
  jw : JW W w j b p o s
  sure : HL (Sj w j b p o) w (.slice q0 X0.length c0) X0
  next : HL (Sj w j b p o) w (.slice q1 Y0.length c1) Y0
  crash : CrashTo s (X0.map pairX) (Y0.map pairX)
  n0 : n0 = X0.length
  n1 : n1 = Y0.length
  xb : X0.length ≤ 1000000000000
  yb : Y0.length ≤ 1000000000000
/-- what the loop keeps -/
structure CInv (W w : World) (j b p : Nat) (o : Option Nat) (s : JS) (q0 : Option Addr) (n0 c0 : Nat) (X0 : List PairD) (q1 : Option Addr) (n1 c1 : Nat) (Y0 : List PairD) : Prop where
  jw : JW W w j b p o s
  hd : s.hd = false
  log : JLog s
  sure : HL (Sj w j b p o) w (.slice q0 X0.length c0) X0
  xl : s.l = X0.map pairX
  nil : X0 = [] → q0 = none
  next : HL (Sj w j b p o) w (.slice q1 Y0.length c1) Y0
  yl : Y0.map pairX = s.l
  n0 : n0 = X0.length
  n1 : n1 = Y0.length
set_option maxHeartbeats 25600000 in
theorem crash_walk (a : Option Addr) (n c : Nat) (X : Nat → BatchD) (fuse keep : Int) (W : World) (G : Glob W) (h0 : 0 ≤ wrap64 ((IntKind.u64.wrap fuse).tmod 40)) (h1 : wrap64 ((IntKind.u64.wrap fuse).tmod 40) ≤ 9223372036854775807) (hX : ElemsIn W a n 2 batCs BatOk X) (hn : n ≤ 140737488351232) :
    Calls Tryd.prog 7 #[.slice a n c, .int .i64 fuse, .int .i64 keep] W fun e w' => e = .returned (.bool true) ∧ Below W.heap.size W w' := by
  have PN := Lib.hid (tnew 4194304 W (by decide) (by decide))
  have HX := Lib.hid (And.intro hX (Below.refl W.heap.size W))
  have HB := Lib.hid (And.intro G (And.intro h0 h1))
  clear hX G h0 h1
  go_enter Tryd.func7, Tryd.ntmps7
  go_wp2_with fail
  refine PN.out.mono ?_
  rintro e w1 ⟨p, o, rfl, hT, hp, ho, hb1⟩
  have hTW : TW W w1 p o [] 0 4194304 (-1) := ⟨hb1, HB.out.1, Byt.nil, by decide, by decide, by decide, by decide, by decide, by decide, by decide, hT, fun k hk => by
    rcases hk with rfl | hk
    · exact hp
    · exact ho k hk⟩
  have PO := jw_open hTW
  rw [opn_nil] at PO
  have PO := Lib.hid PO
  clear hT hp ho hb1 hTW
  go_wp2_with fail
  refine PO.out.mono ?_
  rintro e w2 ⟨k2, ⟨h150, _⟩ | ⟨_, j, b, rfl, hj, hb, hJ, hW⟩⟩
  · exact absurd h150 (by decide)
  have PF := Lib.hid (jw_fuse hW HB.out.2.1 HB.out.2.2)
  clear k2 hj hb hJ hW
  go_wp2_with fail
  refine PF.out.mono ?_
  rintro e w3 ⟨rfl, hW3, _⟩
  have PCp := Lib.hid (tcopy p _ _ _ _ o w3 hW3.tape (by show (0 : Nat) ≤ 140737488355328; decide))
  have H3 := Lib.hid hW3
  clear hW3 PF
  go_wp2_with fail
  refine PCp.out.mono ?_
  rintro e w4 ⟨p4, o4, rfl, hT4, hp4, ho4, hb4⟩
  have hW4 := H3.out.more hb4
  have hTW4 : TW W w4 p4 o4 [] 0 4194304 (wrap64 ((IntKind.u64.wrap fuse).tmod 40)) := ⟨hW4.bel, HB.out.1, Byt.nil, by decide, by decide, by decide, by have := HB.out.2.1; omega, HB.out.2.2, by decide, by decide, hT4, fun k hk => by
    have := H3.out.bel.size
    rcases hk with rfl | hk
    · omega
    · have := ho4 k hk; omega⟩
  have PO := Lib.hid (jw_open hTW4)
  have hf4 : ∀ g, foot p4 o4 g → w3.heap.size ≤ g := fun g hg => by
    rcases hg with rfl | hg
    · exact hp4
    · exact ho4 g hg
  have H4 := Lib.hid (And.intro hb4 hf4)
  have h150 : (opnS [] 0 4194304 (wrap64 ((IntKind.u64.wrap fuse).tmod 40))).1 = 0 := by
    have h := opens_eq (xs := []) (r := []) (fun x hx => by cases hx) Byt.nil nil_none
    change opens [] = ([], 0) at h
    unfold opnS
    rw [h, if_neg (fun f => absurd f.1 (by decide))]
  have HO := Lib.hid h150
  clear h150 hW4 hTW4 hT4 hp4 ho4 hb4 hf4 PCp
  go_wp2_with fail
  refine PO.out.mono ?_
  rintro e w5 ⟨k5, ⟨h150, _⟩ | ⟨_, j5, b5, rfl, _, _, _, _⟩⟩
  · exact absurd (HO.out.symm.trans h150) (by decide)
  have hb5 : Below w3.heap.size w3 w5 := H4.out.1.trans (k5.below H4.out.1.size H4.out.2)
  have hW5 := H3.out.more hb5
  have PT := Lib.hid (jw_contents hW5)
  have H5 := Lib.hid hW5
  clear hb5 hW5 k5 PO
  go_wp2_with fail
  refine PT.out.mono ?_
  rintro e w6 ⟨hb6, q6, c6, X6, rfl, hL6, hX6, hq6⟩
  have hW6 := H5.out.more hb6
  have hS6 : HL (Sj w6 j b p o) w6 (.slice q6 X6.length c6) X6 := hL6.hl.mono (fun g hg => ⟨hg.2, fun hf => by have h1 := H5.out.tape.lt g hf; have h2 := hg.1; omega, by have h1 := H5.out.jat.lt.1; have h2 := hg.1; omega, by have h1 := H5.out.jat.lt.2; have h2 := hg.1; omega⟩)
  obtain ⟨s6, hs6⟩ : ∃ s6 : JS, s6 = ⟨[], 0, 4194304, wrap64 ((IntKind.u64.wrap fuse).tmod 40), [], 0, false⟩ := ⟨_, rfl⟩
  have hlog : JLog s6 := by rw [hs6]; exact ⟨⟨[], fun x hx => (by cases hx), rfl, rfl, rfl⟩, rfl⟩
  have hhd : s6.hd = false := by rw [hs6]
  change JW W w6 j b p o ⟨[], 0, 4194304, wrap64 ((IntKind.u64.wrap fuse).tmod 40), [], 0, false⟩ at hW6
  rw [← hs6] at hW6
  have hX6' : X6.map pairX = s6.l := by rw [hs6]; exact hX6
  have HC := Lib.hid (⟨hW6, hhd, hlog, hS6, hX6'.symm, hq6, hS6, hX6', rfl, rfl⟩ : CInv W w6 j b p o s6 q6 X6.length c6 X6 q6 X6.length c6 X6)
  clear hW6 hhd hlog hS6 hX6' hq6 hs6 hX6 hL6 hb6 PT
  generalize X6.length = n6 at *
  go_wp2
  go_loopg [13, 14, 54] n (fun gh v13 v14 i wx => ∃ (k : Nat) (o : Option Nat) (s : JS) (q0 : Option Addr) (n0 c0 : Nat) (X0 : List PairD) (q1 : Option Addr) (n1 c1 : Nat) (Y0 : List PairD), k ≤ n ∧ v13 = .slice q0 n0 c0 ∧ v14 = .slice q1 n1 c1 ∧ i = .int .i64 (k : Int) ∧ gh = n - k ∧ Hid (CInv W wx j b p o s q0 n0 c0 X0 q1 n1 c1 Y0))
  case atStart => exact ⟨0, o, s6, q6, n6, c6, X6, q6, n6, c6, X6, Nat.zero_le _, rfl, rfl, rfl, rfl, HC.out⟩
  case round =>
    obtain ⟨k, o, s, q0, n0, c0, X0, q1, n1, c1, Y0, hk, rfl, rfl, rfl, hg, HCI⟩ := hrel
    have HG := Lib.hid hg
    have HK := Lib.hid (And.intro HCI.out.jw HCI.out)
    clear hg HCI
    by_cases hlt : k < n
    rotate_left
    · obtain rfl : k = n := by omega
      have hxb : s.l.length ≤ 1000000000000 := by have h1 := HK.out.1.ok.ll; have h2 := HK.out.1.ok.len; omega
      have HR := Lib.hid (⟨HK.out.1, HK.out.2.sure, HK.out.2.next, by rw [← HK.out.2.xl, HK.out.2.yl]; exact crash_log HK.out.2.log, HK.out.2.n0, HK.out.2.n1, by rw [← List.length_map (f := pairX), ← HK.out.2.xl]; exact hxb, by rw [← List.length_map (f := pairX), HK.out.2.yl]; exact hxb⟩ : RInv W wr j b p o s q0 n0 c0 X0 q1 n1 c1 Y0)
      clear hxb
      obtain ⟨N, hN⟩ : ∃ N, N = crashN s.xs.length s.sy keep := ⟨_, rfl⟩
      have hNle := crashN_le s.xs.length s.sy keep HR.out.jw.ok.y0 HR.out.jw.ok.y1
      rw [← hN] at hNle
      have PCr := tcrash p s.xs s.sy s.ro s.fu keep o wr HR.out.jw.tape HR.out.jw.ok.len HR.out.jw.ok.y0 HR.out.jw.ok.y1
      rw [← hN] at PCr
      have PCr := Lib.hid PCr
      have hTl : (s.xs.take N).length = N := by rw [List.length_take]; exact Nat.min_eq_left hNle.1
      have hO : (opnS (s.xs.take N) N s.ro (-1)).1 = 0 ∧ (opnS (s.xs.take N) N s.ro (-1)).2.hd = false := by
        have h := opn_free (xs := s.xs.take N) (HR.out.jw.ok.byt.take N) s.ro
        rw [hTl] at h
        exact ⟨h.1, h.2.2.2.1⟩
      have hcr := HR.out.crash N hNle.2.1 hNle.1
      have HNN := Lib.hid (And.intro hTl (And.intro hO (And.intro hcr hNle)))
      clear hTl hO hcr hNle hN
      go_wp2_with fail
      refine PCr.out.mono ?_
      rintro e w20 ⟨rfl, hT20, hk20⟩
      have hTW20 : TW W w20 p o (s.xs.take N) N s.ro (-1) := ⟨HR.out.jw.bel.trans (hk20.below HR.out.jw.bel.size (fun k hk => (HR.out.jw.ft k hk).1)), HR.out.jw.glob, HR.out.jw.ok.byt.take N, by rw [HNN.out.1]; have h1 := HNN.out.2.2.2.1; have h2 := HR.out.jw.ok.len; omega, HR.out.jw.ok.r0, HR.out.jw.ok.r1, by decide, by decide, by omega, by rw [HNN.out.1]; exact Int.le_refl _, hT20, fun k hk => (HR.out.jw.ft k hk).1⟩
      have PO := Lib.hid (jw_open hTW20)
      have H20 := Lib.hid hk20
      clear hT20 hk20 hTW20 PCr
      go_wp2_with fail
      refine PO.out.mono ?_
      rintro e w21 ⟨k21, ⟨h150, _⟩ | ⟨_, j9, b9, rfl, _, _, _, hW9⟩⟩
      · exact absurd (HNN.out.2.1.1.symm.trans h150) (by decide)
      have hke : Keep (foot p o) wr w21 := H20.out.trans k21
      have hS21 := HR.out.sure.keep hke (fun g hg hf => hg.2.1 hf)
      have hY21 := HR.out.next.keep hke (fun g hg hf => hg.2.1 hf)
      have PH := jhalted j9 ⟨p, 0, none⟩ _ _ _ w21 hW9.jat.1
      rw [HNN.out.2.1.2] at PH
      have PH := Lib.hid PH
      have PT := Lib.hid (jw_contents hW9)
      have H21 := Lib.hid (And.intro hW9 (And.intro hS21 hY21))
      clear hke hS21 hY21 hW9 k21 PO
      go_wp2_with fail
      refine PH.out.mono ?_
      rintro e w21' ⟨rfl, hw⟩
      subst w21'
      go_wp2_with fail
      refine PT.out.mono ?_
      rintro e w22 ⟨hb22, q22, c22, X22, rfl, hL22, hX22, _⟩
      have hS22 := H21.out.2.1.more hb22
      have hY22 := H21.out.2.2.more hb22
      have hG22 := hL22.hl
      have hl22 : X22.length ≤ 1000000000000 := by
        have h1 := congrArg List.length hX22
        rw [List.length_map] at h1
        have h2 := H21.out.1.ok.ll
        have h3 := H21.out.1.ok.len
        omega
      have PS1 := psameH hG22 hS22 hl22 HR.out.xb
      rw [← HR.out.n0] at PS1
      have hbel22 := H21.out.1.bel.trans (hb22.mono H21.out.1.bel.size)
      have PS2 : ∀ w23, Below w22.heap.size w22 w23 → Calls Tryd.prog 18 #[.slice q22 X22.length c22, .slice q1 n1 c1] w23 fun e w' => ∃ b, e = .returned (.bool b) ∧ (X22.map pairX = Y0.map pairX → b = true) ∧ Below w23.heap.size w23 w' := fun w23 hb => by
        have h := psameH (hG22.more hb) (hY22.more hb) hl22 HR.out.yb
        rw [← HR.out.n1] at h
        exact h
      have hres : X22.map pairX = X0.map pairX ∨ X22.map pairX = Y0.map pairX := by
        rw [hX22]; exact HNN.out.2.2.1
      have PS1 := Lib.hid PS1
      have H22 := Lib.hid (And.intro PS2 (And.intro hres hbel22))
      clear hS22 hY22 hG22 hl22 hbel22 PS2 hres hX22 hL22 hb22 PT PH
      generalize X22.length = n22 at *
      go_wp2_with fail
      refine PS1.out.mono ?_
      rintro e w23 ⟨b1, rfl, hb1, hb23⟩
      have H23 := Lib.hid (And.intro hb1 hb23)
      clear hb1 hb23 PS1
      cases b1
      · have PS2 := Lib.hid (H22.out.1 w23 H23.out.2)
        go_wp2_with fail
        refine PS2.out.mono ?_
        rintro e w24 ⟨b2, rfl, hb2, hb24⟩
        obtain rfl : b2 = true := by
          rcases H22.out.2.1 with h | h
          · exact absurd (H23.out.1 h) (by decide)
          · exact hb2 h
        have H24 := Lib.hid ((H22.out.2.2.trans (H23.out.2.mono H22.out.2.2.size)).trans (hb24.mono (H22.out.2.2.trans (H23.out.2.mono H22.out.2.2.size)).size))
        clear hb2 hb24 PS2
        go_wp2
        go_ret
        exact ⟨rfl, H24.out⟩
      · have H24 := Lib.hid (H22.out.2.2.trans (H23.out.2.mono H22.out.2.2.size))
        go_wp2
        go_ret
        exact ⟨rfl, H24.out⟩
    obtain ⟨b', o', rfl, hcl, hca, hok⟩ := HX.out.1 k hlt
    have hbo := hok.old
    obtain ⟨IC, hIC⟩ : ∃ IC, IC = batCs (X k) := ⟨_, rfl⟩
    rw [← hIC] at hcl hca
    have hone1 : IC.toArray.all (·.oneCell') = true := by rw [hIC]; exact arr_oneJ (bat_one _)
    have HIC := Lib.hid (And.intro hIC (And.intro hok hbo))
    clear hIC hok hbo
    have hsa1 : IC.toArray.size = 2 := by rw [List.size_toArray]; exact hcl
    have hr1 := cells_rangeJ (hca.below (HX.out.2.trans (HK.out.1.bel.mono HX.out.2.size)))
    have bz := Blk.new wr #[.slice none 0 0, .slice none 0 0] 25
    have kz := (Below.refl wr.heap.size wr).alloc (Nat.le_refl _) (.cells #[.slice none 0 0, .slice none 0 0] 25)
    have hinf1 : (Tryd.prog.info? 25).map (·.size) = some IC.toArray.size := by rw [hsa1]; kernel_rfl
    have hinf1' : (Tryd.prog.info? 25).map (·.size) = some IC.length := by rw [hcl]; kernel_rfl
    have hsz1 : (#[.slice none 0 0, .slice none 0 0] : Array Value).size = IC.toArray.size := by rw [hsa1]; rfl
    have bx := bz.setAll IC.toArray hsz1
    have kx := below_setCells (B := wr.heap.size) (g := wr.heap.size) (Nat.le_refl _) IC.toArray.toList 0 (wr.alloc (.cells #[.slice none 0 0, .slice none 0 0] 25)) kz
    clear hca kz hcl hsa1
    go_upto_region 11 with (first | (refine wpList_load_mid rfl 25 (.tmp 57) rfl b' (o' + k * 2) rfl IC _ hr1 Tryd.underlying25 rfl hinf1' ?_) | (refine wpl_store rfl 25 (.tmp 16) (.tmp 58) rfl rfl rfl bz hsz1 hinf1 hone1 ?_))
    rw [List.toList_toArray] at kx bx
    change Blk ((wr.alloc (.cells #[.slice none 0 0, .slice none 0 0] 25)).setCells wr.heap.size 0 IC) wr.heap.size IC.toArray 25 at bx
    clear bz hr1
    generalize (wr.alloc (.cells #[.slice none 0 0, .slice none 0 0] 25)).setCells wr.heap.size 0 IC = w4 at *
    generalize hgx : wr.heap.size = gx at *
    have hb4 : Below wr.heap.size wr w4 := by rw [hgx]; exact kx
    have HJ4 := Lib.hid (HK.out.1.more hb4)
    have r1 := cells_rangeJ (w := w4) (b := gx) (o := 0) (cs := IC) (fun t ht => by rw [Nat.zero_add, bx.cell, List.getElem?_toArray])
    have HB4 := Lib.hid hb4
    have HBX4 := Lib.hid bx
    clear hb4 kx bx
    have hS4 := HK.out.2.sure.below HB4.out
    have hY4 := HK.out.2.next.below HB4.out
    have hxb : s.l.length ≤ 16777216 := Nat.le_trans HK.out.1.ok.ll HK.out.1.ok.len
    have hx0 : X0.length ≤ 16777216 := by rw [← List.length_map (f := pairX), ← HK.out.2.xl]; exact hxb
    have hy0 : Y0.length ≤ 16777216 := by rw [← List.length_map (f := pairX), HK.out.2.yl]; exact hxb
    have HS4 := Lib.hid (And.intro hS4 (And.intro hY4 (And.intro hx0 hy0)))
    clear hS4 hY4 hxb hx0 hy0
    by_cases h20 : 20 < k
    · have h20' : (20 : Int) < (k : Int) := by omega
      have HR := Lib.hid (⟨HJ4.out, HS4.out.1, HS4.out.2.1, by rw [← HK.out.2.xl, HK.out.2.yl]; exact crash_log HK.out.2.log, HK.out.2.n0, HK.out.2.n1, by have := HS4.out.2.2.1; omega, by have := HS4.out.2.2.2; omega⟩ : RInv W w4 j b p o s q0 n0 c0 X0 q1 n1 c1 Y0)
      clear r1
      obtain ⟨N, hN⟩ : ∃ N, N = crashN s.xs.length s.sy keep := ⟨_, rfl⟩
      have hNle := crashN_le s.xs.length s.sy keep HR.out.jw.ok.y0 HR.out.jw.ok.y1
      rw [← hN] at hNle
      have PCr := tcrash p s.xs s.sy s.ro s.fu keep o w4 HR.out.jw.tape HR.out.jw.ok.len HR.out.jw.ok.y0 HR.out.jw.ok.y1
      rw [← hN] at PCr
      have PCr := Lib.hid PCr
      have hTl : (s.xs.take N).length = N := by rw [List.length_take]; exact Nat.min_eq_left hNle.1
      have hO : (opnS (s.xs.take N) N s.ro (-1)).1 = 0 ∧ (opnS (s.xs.take N) N s.ro (-1)).2.hd = false := by
        have h := opn_free (xs := s.xs.take N) (HR.out.jw.ok.byt.take N) s.ro
        rw [hTl] at h
        exact ⟨h.1, h.2.2.2.1⟩
      have hcr := HR.out.crash N hNle.2.1 hNle.1
      have HNN := Lib.hid (And.intro hTl (And.intro hO (And.intro hcr hNle)))
      clear hTl hO hcr hNle hN
      go_wp2_with fail
      refine PCr.out.mono ?_
      rintro e w20 ⟨rfl, hT20, hk20⟩
      have hTW20 : TW W w20 p o (s.xs.take N) N s.ro (-1) := ⟨HR.out.jw.bel.trans (hk20.below HR.out.jw.bel.size (fun k hk => (HR.out.jw.ft k hk).1)), HR.out.jw.glob, HR.out.jw.ok.byt.take N, by rw [HNN.out.1]; have h1 := HNN.out.2.2.2.1; have h2 := HR.out.jw.ok.len; omega, HR.out.jw.ok.r0, HR.out.jw.ok.r1, by decide, by decide, by omega, by rw [HNN.out.1]; exact Int.le_refl _, hT20, fun k hk => (HR.out.jw.ft k hk).1⟩
      have PO := Lib.hid (jw_open hTW20)
      have H20 := Lib.hid hk20
      clear hT20 hk20 hTW20 PCr
      go_wp2_with fail
      refine PO.out.mono ?_
      rintro e w21 ⟨k21, ⟨h150, _⟩ | ⟨_, j9, b9, rfl, _, _, _, hW9⟩⟩
      · exact absurd (HNN.out.2.1.1.symm.trans h150) (by decide)
      have hke : Keep (foot p o) w4 w21 := H20.out.trans k21
      have hS21 := HR.out.sure.keep hke (fun g hg hf => hg.2.1 hf)
      have hY21 := HR.out.next.keep hke (fun g hg hf => hg.2.1 hf)
      have PH := jhalted j9 ⟨p, 0, none⟩ _ _ _ w21 hW9.jat.1
      rw [HNN.out.2.1.2] at PH
      have PH := Lib.hid PH
      have PT := Lib.hid (jw_contents hW9)
      have H21 := Lib.hid (And.intro hW9 (And.intro hS21 hY21))
      clear hke hS21 hY21 hW9 k21 PO
      go_wp2_with fail
      refine PH.out.mono ?_
      rintro e w21' ⟨rfl, hw⟩
      subst w21'
      go_wp2_with fail
      refine PT.out.mono ?_
      rintro e w22 ⟨hb22, q22, c22, X22, rfl, hL22, hX22, _⟩
      have hS22 := H21.out.2.1.more hb22
      have hY22 := H21.out.2.2.more hb22
      have hG22 := hL22.hl
      have hl22 : X22.length ≤ 1000000000000 := by
        have h1 := congrArg List.length hX22
        rw [List.length_map] at h1
        have h2 := H21.out.1.ok.ll
        have h3 := H21.out.1.ok.len
        omega
      have PS1 := psameH hG22 hS22 hl22 HR.out.xb
      rw [← HR.out.n0] at PS1
      have hbel22 := H21.out.1.bel.trans (hb22.mono H21.out.1.bel.size)
      have PS2 : ∀ w23, Below w22.heap.size w22 w23 → Calls Tryd.prog 18 #[.slice q22 X22.length c22, .slice q1 n1 c1] w23 fun e w' => ∃ b, e = .returned (.bool b) ∧ (X22.map pairX = Y0.map pairX → b = true) ∧ Below w23.heap.size w23 w' := fun w23 hb => by
        have h := psameH (hG22.more hb) (hY22.more hb) hl22 HR.out.yb
        rw [← HR.out.n1] at h
        exact h
      have hres : X22.map pairX = X0.map pairX ∨ X22.map pairX = Y0.map pairX := by
        rw [hX22]; exact HNN.out.2.2.1
      have PS1 := Lib.hid PS1
      have H22 := Lib.hid (And.intro PS2 (And.intro hres hbel22))
      clear hS22 hY22 hG22 hl22 hbel22 PS2 hres hX22 hL22 hb22 PT PH
      generalize X22.length = n22 at *
      go_wp2_with fail
      refine PS1.out.mono ?_
      rintro e w23 ⟨b1, rfl, hb1, hb23⟩
      have H23 := Lib.hid (And.intro hb1 hb23)
      clear hb1 hb23 PS1
      cases b1
      · have PS2 := Lib.hid (H22.out.1 w23 H23.out.2)
        go_wp2_with fail
        refine PS2.out.mono ?_
        rintro e w24 ⟨b2, rfl, hb2, hb24⟩
        obtain rfl : b2 = true := by
          rcases H22.out.2.1 with h | h
          · exact absurd (H23.out.1 h) (by decide)
          · exact hb2 h
        have H24 := Lib.hid ((H22.out.2.2.trans (H23.out.2.mono H22.out.2.2.size)).trans (hb24.mono (H22.out.2.2.trans (H23.out.2.mono H22.out.2.2.size)).size))
        clear hb2 hb24 PS2
        go_wp2
        go_ret
        exact ⟨rfl, H24.out⟩
      · have H24 := Lib.hid (H22.out.2.2.trans (H23.out.2.mono H22.out.2.2.size))
        go_wp2
        go_ret
        exact ⟨rfl, H24.out⟩
    have h20' : ¬ ((20 : Int) < (k : Int)) := by omega
    have HXk := Lib.hid (HX.out.2.trans (HJ4.out.bel.mono HX.out.2.size))
    have PC := jw_commit (X := X k) HJ4.out (HIC.out.2.1.below HXk.out) HIC.out.2.2
    rw [← HIC.out.1] at PC
    have PC := Lib.hid PC
    go_wp2_with (first | (refine wpList_load_mid rfl 25 (.tmp 16) rfl gx 0 rfl IC _ r1 Tryd.underlying25 rfl hinf1' ?_))
    refine PC.out.mono ?_
    rintro e w5 ⟨o5, rfl, hJ5, hk5, ho5⟩
    have hS5 := HS4.out.1.com hk5 ho5
    have hY5 := HS4.out.2.1.com hk5 ho5
    have bx5 := hk5.blk HBX4.out (fun hf => by
      rcases hf with hf | hf | hf
      · have h1 := HK.out.1.tape.lt _ hf; omega
      · have h1 := HK.out.1.jat.lt.1; omega
      · have h1 := HK.out.1.jat.lt.2; omega)
    have r5 := cells_rangeJ (w := w5) (b := gx) (o := 0) (cs := IC) (fun t ht => by rw [Nat.zero_add, bx5.cell, List.getElem?_toArray])
    clear r1 PC hk5 ho5 bx5
    rcases com_cases s (batX (X k)) HK.out.2.hd HK.out.2.log (fit_of HIC.out.2.1) with ⟨hc, ec⟩ | hcase
    · rw [ec] at hJ5 ⊢
      have H5 := Lib.hid (⟨hJ5, HK.out.2.hd, HK.out.2.log, hS5, HK.out.2.xl, HK.out.2.nil, hY5, HK.out.2.yl, HK.out.2.n0, HK.out.2.n1⟩ : CInv W w5 j b p o5 s q0 n0 c0 X0 q1 n1 c1 Y0)
      clear hJ5 hS5 hY5 r5 hc ec
      go_wp2
      go_roundg (n - (k + 1))
      case measure => rw [HG.out]; omega
      case rel => exact ⟨k + 1, o5, s, q0, n0, c0, X0, q1, n1, c1, Y0, hlt, rfl, rfl, by go_num, rfl, H5.out⟩
    have hcan : CanB (batX (X k)) := by rcases hcase with h | h <;> exact h.1
    have hpn : (X k).puts.n ≤ 100000 := by have h := hcan.puts; simp [batX] at h; omega
    have PA := pafterH hJ5 hS5 HK.out.2.nil (by have := HS4.out.2.2.1; omega) HIC.out.2.1 hpn
    rw [← HK.out.2.n0, ← HIC.out.1, ← HK.out.2.xl] at PA
    have PA := Lib.hid PA
    obtain ⟨s5, hs5⟩ : ∃ s5, s5 = (comS s (batX (X k))).2 := ⟨_, rfl⟩
    obtain ⟨r, hr⟩ : ∃ r, r = (comS s (batX (X k))).1 := ⟨_, rfl⟩
    rw [← hs5] at hJ5 hcase
    rw [← hr] at hcase ⊢
    have H5 := Lib.hid (And.intro hJ5 (And.intro hS5 hpn))
    clear hs5 hr hJ5 hS5 hY5 hcan hpn
    rcases hcase with ⟨_, rfl, el, ehd, elog⟩ | ⟨_, hr0, hr1, el, ecr⟩
    · have HE := Lib.hid (And.intro el (And.intro ehd elog))
      clear el ehd elog
      go_wp2_with (first | (refine wpList_load_mid rfl 25 (.tmp 16) rfl gx 0 rfl IC _ r5 Tryd.underlying25 rfl hinf1' ?_))
      refine PA.out.mono ?_
      rintro e w6 ⟨q6, c6, Y6, rfl, hY6, hm6, hl6, hb6⟩
      have hJ6 := H5.out.1.more hb6
      have PT := Lib.hid (jw_contents hJ6)
      have H6 := Lib.hid (And.intro hJ6 (And.intro hY6 (And.intro hm6 hl6)))
      clear hJ6 hY6 hm6 hl6 hb6 r5 PA
      obtain ⟨n6, hn6⟩ : ∃ n6, n6 = Y6.length := ⟨_, rfl⟩
      rw [← hn6]
      have HN6 := Lib.hid hn6
      clear hn6
      go_wp2_with fail
      refine PT.out.mono ?_
      rintro e w7 ⟨hb7, q7, c7, X7, rfl, hL7, hX7, hq7⟩
      have hJ7 := H6.out.1.more hb7
      have hS7 : HL (Sj w7 j b p o5) w7 (.slice q7 X7.length c7) X7 := hL7.hl.mono (fun g hg => ⟨hg.2, fun hf => by have h1 := H6.out.1.tape.lt g hf; have h2 := hg.1; omega, by have h1 := H6.out.1.jat.lt.1; have h2 := hg.1; omega, by have h1 := H6.out.1.jat.lt.2; have h2 := hg.1; omega⟩)
      have hY7 := H6.out.2.1.below hb7
      have hxl7 : X7.length ≤ 1000000000000 := by
        have h1 := congrArg List.length hX7
        rw [List.length_map] at h1
        have h2 := hJ7.ok.ll
        have h3 := hJ7.ok.len
        omega
      have hyl7 : Y6.length ≤ 1000000000000 := by have h1 := H6.out.2.2.2; have h2 := HS4.out.2.2.1; have h3 := H5.out.2.2; have h4 := HK.out.2.n0; omega
      have PS := psameH hS7 hY7 hxl7 hyl7
      obtain ⟨n7, hn7⟩ : ∃ n7, n7 = X7.length := ⟨_, rfl⟩
      rw [← HN6.out, ← hn7] at PS
      rw [← hn7]
      have HN7 := Lib.hid hn7
      have PS := Lib.hid PS
      have H7 := Lib.hid (And.intro hJ7 (And.intro hS7 (And.intro hY7 (And.intro hX7 hq7))))
      clear hn7 hJ7 hS7 hY7 hxl7 hyl7 hX7 hq7 hL7 hb7 PT
      go_wp2_with fail
      refine PS.out.mono ?_
      rintro e w8 ⟨bb, rfl, hbb, hb8⟩
      obtain rfl : bb = true := hbb (by rw [H7.out.2.2.2.1, H6.out.2.2.1, HE.out.1])
      have H8 := Lib.hid (⟨H7.out.1.more hb8, HE.out.2.1, HE.out.2.2, H7.out.2.1.below hb8, H7.out.2.2.2.1.symm, H7.out.2.2.2.2, H7.out.2.2.1.below hb8, by rw [H6.out.2.2.1, HE.out.1], HN7.out, HN6.out⟩ : CInv W w8 j b p o5 s5 q7 n7 c7 X7 q6 n6 c6 Y6)
      clear hbb hb8 PS
      go_wp2
      go_roundg (n - (k + 1))
      case measure => rw [HG.out]; omega
      case rel => exact ⟨k + 1, o5, s5, q7, n7, c7, X7, q6, n6, c6, Y6, hlt, rfl, rfl, by go_num, rfl, H8.out⟩
    · have hr0' : (r == 0) = false := beq_false_of_ne hr0
      have hr1' : (r == 1) = false := beq_false_of_ne hr1
      have HE := Lib.hid (And.intro el ecr)
      clear el ecr
      go_wp2_with (first | (refine wpList_load_mid rfl 25 (.tmp 16) rfl gx 0 rfl IC _ r5 Tryd.underlying25 rfl hinf1' ?_))
      refine PA.out.mono ?_
      rintro e w6 ⟨q6, c6, Y6, rfl, hY6, hm6, hl6, hb6⟩
      obtain ⟨n6, hn6⟩ : ∃ n6, n6 = Y6.length := ⟨_, rfl⟩
      rw [← hn6]
      have HR := Lib.hid (⟨H5.out.1.more hb6, H5.out.2.1.below hb6, hY6, by rw [hm6, ← HK.out.2.xl]; exact HE.out.2, HK.out.2.n0, hn6, by have := HS4.out.2.2.1; omega, by have h2 := HS4.out.2.2.1; have h3 := H5.out.2.2; have h4 := HK.out.2.n0; omega⟩ : RInv W w6 j b p o5 s5 q0 n0 c0 X0 q6 n6 c6 Y6)
      clear hY6 hm6 hl6 hb6 hn6 r5 PA
      obtain ⟨N, hN⟩ : ∃ N, N = crashN s5.xs.length s5.sy keep := ⟨_, rfl⟩
      have hNle := crashN_le s5.xs.length s5.sy keep HR.out.jw.ok.y0 HR.out.jw.ok.y1
      rw [← hN] at hNle
      have PCr := tcrash p s5.xs s5.sy s5.ro s5.fu keep o5 w6 HR.out.jw.tape HR.out.jw.ok.len HR.out.jw.ok.y0 HR.out.jw.ok.y1
      rw [← hN] at PCr
      have PCr := Lib.hid PCr
      have hTl : (s5.xs.take N).length = N := by rw [List.length_take]; exact Nat.min_eq_left hNle.1
      have hO : (opnS (s5.xs.take N) N s5.ro (-1)).1 = 0 ∧ (opnS (s5.xs.take N) N s5.ro (-1)).2.hd = false := by
        have h := opn_free (xs := s5.xs.take N) (HR.out.jw.ok.byt.take N) s5.ro
        rw [hTl] at h
        exact ⟨h.1, h.2.2.2.1⟩
      have hcr := HR.out.crash N hNle.2.1 hNle.1
      have HNN := Lib.hid (And.intro hTl (And.intro hO (And.intro hcr hNle)))
      clear hTl hO hcr hNle hN
      go_wp2_with fail
      refine PCr.out.mono ?_
      rintro e w20 ⟨rfl, hT20, hk20⟩
      have hTW20 : TW W w20 p o5 (s5.xs.take N) N s5.ro (-1) := ⟨HR.out.jw.bel.trans (hk20.below HR.out.jw.bel.size (fun k hk => (HR.out.jw.ft k hk).1)), HR.out.jw.glob, HR.out.jw.ok.byt.take N, by rw [HNN.out.1]; have h1 := HNN.out.2.2.2.1; have h2 := HR.out.jw.ok.len; omega, HR.out.jw.ok.r0, HR.out.jw.ok.r1, by decide, by decide, by omega, by rw [HNN.out.1]; exact Int.le_refl _, hT20, fun k hk => (HR.out.jw.ft k hk).1⟩
      have PO := Lib.hid (jw_open hTW20)
      have H20 := Lib.hid hk20
      clear hT20 hk20 hTW20 PCr
      go_wp2_with fail
      refine PO.out.mono ?_
      rintro e w21 ⟨k21, ⟨h150, _⟩ | ⟨_, j9, b9, rfl, _, _, _, hW9⟩⟩
      · exact absurd (HNN.out.2.1.1.symm.trans h150) (by decide)
      have hke : Keep (foot p o5) w6 w21 := H20.out.trans k21
      have hS21 := HR.out.sure.keep hke (fun g hg hf => hg.2.1 hf)
      have hY21 := HR.out.next.keep hke (fun g hg hf => hg.2.1 hf)
      have PH := jhalted j9 ⟨p, 0, none⟩ _ _ _ w21 hW9.jat.1
      rw [HNN.out.2.1.2] at PH
      have PH := Lib.hid PH
      have PT := Lib.hid (jw_contents hW9)
      have H21 := Lib.hid (And.intro hW9 (And.intro hS21 hY21))
      clear hke hS21 hY21 hW9 k21 PO
      go_wp2_with fail
      refine PH.out.mono ?_
      rintro e w21' ⟨rfl, hw⟩
      subst w21'
      go_wp2_with fail
      refine PT.out.mono ?_
      rintro e w22 ⟨hb22, q22, c22, X22, rfl, hL22, hX22, _⟩
      have hS22 := H21.out.2.1.more hb22
      have hY22 := H21.out.2.2.more hb22
      have hG22 := hL22.hl
      have hl22 : X22.length ≤ 1000000000000 := by
        have h1 := congrArg List.length hX22
        rw [List.length_map] at h1
        have h2 := H21.out.1.ok.ll
        have h3 := H21.out.1.ok.len
        omega
      have PS1 := psameH hG22 hS22 hl22 HR.out.xb
      rw [← HR.out.n0] at PS1
      have hbel22 := H21.out.1.bel.trans (hb22.mono H21.out.1.bel.size)
      have PS2 : ∀ w23, Below w22.heap.size w22 w23 → Calls Tryd.prog 18 #[.slice q22 X22.length c22, .slice q6 n6 c6] w23 fun e w' => ∃ b, e = .returned (.bool b) ∧ (X22.map pairX = Y6.map pairX → b = true) ∧ Below w23.heap.size w23 w' := fun w23 hb => by
        have h := psameH (hG22.more hb) (hY22.more hb) hl22 HR.out.yb
        rw [← HR.out.n1] at h
        exact h
      have hres : X22.map pairX = X0.map pairX ∨ X22.map pairX = Y6.map pairX := by
        rw [hX22]; exact HNN.out.2.2.1
      have PS1 := Lib.hid PS1
      have H22 := Lib.hid (And.intro PS2 (And.intro hres hbel22))
      clear hS22 hY22 hG22 hl22 hbel22 PS2 hres hX22 hL22 hb22 PT PH
      generalize X22.length = n22 at *
      go_wp2_with fail
      refine PS1.out.mono ?_
      rintro e w23 ⟨b1, rfl, hb1, hb23⟩
      have H23 := Lib.hid (And.intro hb1 hb23)
      clear hb1 hb23 PS1
      cases b1
      · have PS2 := Lib.hid (H22.out.1 w23 H23.out.2)
        go_wp2_with fail
        refine PS2.out.mono ?_
        rintro e w24 ⟨b2, rfl, hb2, hb24⟩
        obtain rfl : b2 = true := by
          rcases H22.out.2.1 with h | h
          · exact absurd (H23.out.1 h) (by decide)
          · exact hb2 h
        have H24 := Lib.hid ((H22.out.2.2.trans (H23.out.2.mono H22.out.2.2.size)).trans (hb24.mono (H22.out.2.2.trans (H23.out.2.mono H22.out.2.2.size)).size))
        clear hb2 hb24 PS2
        go_wp2
        go_ret
        exact ⟨rfl, H24.out⟩
      · have H24 := Lib.hid (H22.out.2.2.trans (H23.out.2.mono H22.out.2.2.size))
        go_wp2
        go_ret
        exact ⟨rfl, H24.out⟩
theorem crash_full (a : Option Addr) (n c : Nat) (X : Nat → BatchD) (fuse keep : Int) (W : World) (G : Glob W) (hX : ElemsIn W a n 2 batCs BatOk X) (hn : n ≤ 140737488351232) :
    Calls Tryd.prog 7 #[.slice a n c, .int .i64 fuse, .int .i64 keep] W fun e w' => e = .returned (.bool true) ∧ Below W.heap.size W w' := by
  have h0 : 0 ≤ IntKind.u64.wrap fuse := by unfold IntKind.wrap; exact Int.emod_nonneg _ (by decide)
  have h1 : 0 ≤ (IntKind.u64.wrap fuse).tmod 40 := Int.tmod_nonneg _ h0
  have h2 : (IntKind.u64.wrap fuse).tmod 40 < 40 := Int.tmod_lt_of_pos _ (by decide)
  have h3 : wrap64 ((IntKind.u64.wrap fuse).tmod 40) = (IntKind.u64.wrap fuse).tmod 40 := by unfold wrap64; omega
  exact crash_walk a n c X fuse keep W G (by rw [h3]; exact h1) (by rw [h3]; omega) hX hn
end Go.Proofs.YtbjbjgfjaopibaaDoor
end

section
/- Opening arguments: a batch, batches; the weights bound every length. -/
namespace Go.Proofs.YtbjbjgfjaopibaaDoor
open Go Go.ChangeShapes Go.WideShapes Go.ChangeAt Go.RowKit
set_option linter.unusedVariables false
set_option maxRecDepth 100000

theorem sized_part {H : Type} {ts : List TypeId} {ds : List (DataW H)} {jj : Nat} {t : TypeId} {d : DataW H} (hsz : (DataW.weightsEach Tryd.prog ts ds).all (· ≤ reachBytes) = true) (ht : ts[jj]? = some t) (hd : ds[jj]? = some d) : ∀ m ∈ d.weights Tryd.prog t, m ≤ MB := fun m hm => by
  have h := List.all_eq_true.1 hsz m (weightsEach_at ht hd m hm)
  exact of_decide_eq_true h
section
variable {H : Type} {enc : TypeId × Value → H} {w : World} {b0 : Nat} {r : Reach} {v : Value} {d : DataW H} {p : List MemPlace} {ts : List TypeId} {ds : List (DataW H)} {jj : Nat}
theorem open_batchW (hv : Value.okWide Tryd.prog w r b0 25 v) (h : DataW.Trod enc Tryd.prog w 0 (fun _ => true) true 25 v d p) (hsz : (DataW.weightsEach Tryd.prog ts ds).all (· ≤ reachBytes) = true) (ht : ts[jj]? = some 25) (hd : ds[jj]? = some d) :
    ∃ x : BatchD, v = .agg (batCs x).toArray ∧ BatOk w x := by
  obtain ⟨cs, rfl, _⟩ := okWide_struct Tryd.underlying25 hv
  obtain ⟨fuel, hf⟩ := h
  have hok := ok_of_trodW (M := MB) (f := 5) (by kernel_rfl) hf (sized_part hsz ht hd)
  obtain ⟨x, e, hx⟩ := ok_batch (f := 0) hok
  have e' : cs.toList = batCs x := e
  exact ⟨x, by rw [← e'], hx⟩
theorem open_batchesW (hv : Value.okWide Tryd.prog w r b0 46 v) (h : DataW.Trod enc Tryd.prog w 0 (fun _ => true) true 46 v d p) (hsz : (DataW.weightsEach Tryd.prog ts ds).all (· ≤ reachBytes) = true) (ht : ts[jj]? = some 46) (hd : ds[jj]? = some d) :
    ∃ s : SlD BatchD, v = .slice s.a s.n s.c ∧ SlOk MB 2 batCs BatOk w s := by
  obtain ⟨a0, len, cap, rfl⟩ := okWide_slice Tryd.underlying46 hv
  obtain ⟨fuel, hf⟩ := h
  have hok := ok_of_trodW (M := MB) (f := 6) (by kernel_rfl) hf (sized_part hsz ht hd)
  obtain ⟨s, e, hs⟩ := Ok.sl (f := 5) (k := 2) (cs := batCs) (ok := BatOk) (Nat.le_refl _) Tryd.underlying46 (by kernel_rfl) hok (⟨⟨none, 0, 0, fun _ => ⟨⟨#[]⟩, ⟨none, 0, []⟩⟩⟩, ⟨none, 0, 0, fun _ => ⟨#[]⟩⟩⟩ : BatchD) (fun c' hc => ok_batch (f := 0) hc)
  have e' : [Value.slice a0 len cap] = [s.cell] := e
  exact ⟨s, by injection e', hs⟩
end
end Go.Proofs.YtbjbjgfjaopibaaDoor
end

section
/- The laid tables of sha, read. -/
namespace Go.Proofs.YtbjbjgfjaopibaaDoor
open Go Go.RowKit Go.ChangeShapes Go.WideShapes
set_option maxRecDepth 100000

theorem gFirst : Tryd.prog.globalNamed "sporran/sha.first" = some 0 := by kernel_rfl
theorem gWords : Tryd.prog.globalNamed "sporran/sha.words" = some 1 := by kernel_rfl
theorem tFirst : (Tryd.prog.globals[0]?).map (·.type) = some 129 := by kernel_rfl
theorem tWords : (Tryd.prog.globals[1]?).map (·.type) = some 144 := by kernel_rfl
theorem u32cells : Tryd.prog.cellsOf 125 = 1 := by kernel_rfl
/-- an array of words of 32 bits, read -/
theorem trod_u32s {H : Type} {enc : TypeId × Value → H} {w : World} {base : Nat} {spare : Nat → Bool} {held : Bool} {fuel n : Nat} {t : TypeId} {cs : List Value} {d : DataW H} {ps : List MemPlace} (L : List Int)
    (ht : Tryd.prog.underlying t = some (.array n 125)) (h : DataW.trod enc Tryd.prog w base spare held fuel t cs = some (d, ps)) (hd : d = .agg (L.map fun k => .lit (.int .u32 k))) (hL : L.length = n) (hct : Tryd.prog.cellsOf t = n) :
    ∀ i, i < n → cs[i]? = some (.int .u32 (L.getD i 0)) := by
  obtain ⟨xs, m, _, hx, hl, hn, hi⟩ := DataW.trod_array ht h
  rw [u32cells] at hi
  rw [hct] at hl
  intro i hlt
  have h1 := hi i hlt
  rw [Nat.mul_one] at h1
  obtain ⟨x, hxi⟩ : ∃ x, xs[i]? = some x := ⟨xs[i]'(by omega), List.getElem?_eq_getElem (by omega)⟩
  rw [hxi] at h1
  have hc : cs[i]? = some (cs[i]'(by omega)) := List.getElem?_eq_getElem (by omega)
  have h2 : (cs.drop i).take 1 = [cs[i]'(by omega)] := by simp [List.take_one, hc]
  rw [h2] at h1
  obtain ⟨z, e0, e1, _⟩ := DataW.trod_int Tryd.underlying125 h1
  rw [hc]
  simp at e0
  rw [e0]
  have e2 : xs.map (·.1) = L.map fun k => .lit (.int .u32 k) := by
    simp only [Prod.mk.injEq] at hx
    have := hx.1.symm.trans hd
    simpa using this
  have e3 := congrArg (fun l : List (DataW H) => l[i]?) e2
  simp only [List.getElem?_map, hxi, Option.map_some] at e3
  have hLi : L[i]? = some (L.getD i 0) := by
    rw [List.getD_eq_getElem?_getD, List.getElem?_eq_getElem (by omega)]; rfl
  rw [hLi, Option.map_some, e1] at e3
  simp at e3
  rw [e3]; simp [List.getD_eq_getElem?_getD]
def s0L : List Int := [0x6a09e667, 0xbb67ae85, 0x3c6ef372, 0xa54ff53a, 0x510e527f, 0x9b05688c, 0x1f83d9ab, 0x5be0cd19]
def kwL : List Int := shaK.map fun (n : Nat) => (n : Int)
theorem s0L_iv (i : Nat) (hi : i < 8) : s0L.getD i 0 = iv (s0 i) := by
  rcases (by omega : i = 0 ∨ i = 1 ∨ i = 2 ∨ i = 3 ∨ i = 4 ∨ i = 5 ∨ i = 6 ∨ i = 7) with h | h | h | h | h | h | h | h <;> subst h <;> kernel_rfl
theorem shaK_lt : ∀ i, i < 64 → shaK.getD i 0 < 4294967296 := by decide +kernel
theorem kwL_iv (i : Nat) (hi : i < 64) : kwL.getD i 0 = iv (kw i) := by
  unfold kwL kw iv
  rw [BitVec.toNat_ofNat, Nat.mod_eq_of_lt (shaK_lt i hi), List.getD_eq_getElem?_getD, List.getElem?_map, List.getD_eq_getElem?_getD]
  have : shaK[i]? = some (shaK[i]'(by rw [show shaK.length = 64 from rfl]; exact hi)) := List.getElem?_eq_getElem _
  rw [this]; rfl
theorem glob_of {W : World} (h : laidMetH Tryd.prog [("sporran/sha.words", Rows.laid_sporran_sha_words), ("sporran/sha.first", Rows.laid_sporran_sha_first)] W) : Glob W := by
  rw [MakeChecks.laidMetH_plain _ _ _ (by kernel_rfl)] at h
  obtain ⟨ps, ⟨g0, t0, cs0, f0, p0, q0, hg0, ht0, hv0, hd0, ⟨g1, t1, cs1, f1, p1, q1, hg1, ht1, hv1, hd1, _, _⟩, _⟩, _, _⟩ := h
  obtain rfl := Option.some.inj (gWords.symm.trans hg0)
  obtain rfl := Option.some.inj (gFirst.symm.trans hg1)
  obtain rfl := Option.some.inj (tWords.symm.trans ht0)
  obtain rfl := Option.some.inj (tFirst.symm.trans ht1)
  refine ⟨fun i hi => ?_, fun i hi => ?_⟩
  · have hc := trod_u32s s0L Tryd.underlying129 hd1 (by kernel_rfl) rfl (by kernel_rfl) i hi
    have := World.var?_cell hg1 hv1 i
    rw [this]
    rw [s0L_iv i hi] at hc
    simpa using hc
  · have hc := trod_u32s kwL Tryd.underlying144 hd0 (by kernel_rfl) rfl (by kernel_rfl) i hi
    have := World.var?_cell hg0 hv0 i
    rw [this]
    rw [kwL_iv i hi] at hc
    simpa using hc
end Go.Proofs.YtbjbjgfjaopibaaDoor
end

section
/- The statement JournalCrashes: for every input the law returns true, and its arguments read as before. No condition. -/
namespace Go.Proofs.YtbjbjgfjaopibaaDoor
open Go.ChangeShapes Go.WideShapes Go.ChangeAt Go.RowKit
set_option linter.unusedVariables false

set_option maxRecDepth 100000 in
/-- The door's own heap meets the condition. -/
theorem door_met_journalCrashes (os : Os) (args : Array Value) : laidMetH Tryd.prog Rows.journalCrashesRow.laid ((World.doorLaid Tryd.prog 19 os).forCall (fun _ _ => 0) ⟨#[], args, []⟩).memory :=
  laidMetH_of_parts3 (fuel := 8) (laidMet_of_run' 8 (by kernel_rfl) (by kernel_rfl)) (by kernel_rfl) (by kernel_rfl)
set_option maxRecDepth 100000 in
theorem journalCrashes_lifted (os : Os) (started : os.Started) (H : Type) (enc : TypeId × Value → H) :
    ReturnsInHanded {} Tryd.checked os 7 .any (fun w args => (Rows.journalCrashesSpec.pre enc Tryd.prog Tryd.f7 [] false w args ∧ laidMetH Tryd.prog Rows.journalCrashesRow.laid w) ∧ sizedMet enc Tryd.prog Tryd.f7 (OpenSpec.ofChange Rows.journalCrashesSpec) false w args) (Rows.journalCrashesSpec.post enc Tryd.prog Tryd.f7 false true false false) := by
  refine returnsInHanded_of_change_and (C := Tryd.checked) (X := fun w _ => laidMetH Tryd.prog Rows.journalCrashesRow.laid w) (fun _ _ _ hh h => h.of_heap hh) Tryd.own started (by kernel_rfl) Tryd.func7
    (ChangeSpec.witness_shaped (enc := enc) (C := Tryd.checked) (os := os) (X := fun w _ => laidMetH Tryd.prog Rows.journalCrashesRow.laid w) false (World.doorLaid Tryd.prog 19 os) #[.slice none 0 0, .int .i64 0, .int .i64 0] 8 rfl (World.shaped_of_RefB (by kernel_rfl) (by kernel_rfl)) (by kernel_rfl) (by kernel_rfl) (by kernel_rfl) (door_met_journalCrashes os _)) ?_
  intro W base args ds gs before hval0 hW hcnd hsz0 hL _
  have hsz : (DataW.weightsEach Tryd.prog (Tryd.f7.params.toList ++ Rows.journalCrashesSpec.plain.varTypes Tryd.prog) (ds ++ gs)).all (· ≤ reachBytes) = true := hsz0
  clear hsz0
  have hval : ∀ (j : Nat) t v, Tryd.f7.params[j]? = some t → args[j]? = some v → Value.okWide Tryd.prog W .any base t v := hval0
  have hW' := hW
  obtain ⟨p, q, hA0, hV, rfl, hfz, hnd⟩ := hW
  have hA : DataW.TrodAll enc Tryd.prog W 0 (fun _ => true) true Tryd.f7.params.toList args.toList ds p := hA0
  rw [Tryd.params7] at hA hval hsz
  obtain ⟨v0, vs0, d0, ds0, p0, q0, hargs, rfl, rfl, h0, r0⟩ := trodAll_cons hA
  obtain ⟨v1, vs1, d1, ds1, p1, q1, rfl, rfl, rfl, h1, r1⟩ := trodAll_cons r0
  obtain ⟨v2, vs2, d2, ds2, p2, q2, rfl, rfl, rfl, h2, r2⟩ := trodAll_cons r1
  obtain ⟨rfl, rfl, rfl⟩ := trodAll_nil r2
  obtain rfl : args = #[v0, v1, v2] := by cases args; simp_all
  obtain ⟨rfl, rfl⟩ := trodVars_none hV
  have k0 := h0
  have lt0 : ∀ x ∈ p0, x.block < W.heap.size := by obtain ⟨m, hm⟩ := k0; exact DataW.trod_lt m _ _ _ hm
  have k1 := h1
  have lt1 : ∀ x ∈ p1, x.block < W.heap.size := by obtain ⟨m, hm⟩ := k1; exact DataW.trod_lt m _ _ _ hm
  have k2 := h2
  have lt2 : ∀ x ∈ p2, x.block < W.heap.size := by obtain ⟨m, hm⟩ := k2; exact DataW.trod_lt m _ _ _ hm
  obtain ⟨s0, rfl, w0⟩ := open_batchesW (hval 0 46 v0 rfl rfl) h0 hsz (jj := 0) rfl rfl
  obtain ⟨a1, rfl, e1, f1, w1⟩ := open_int Tryd.underlying3 (hval 1 3 v1 rfl rfl) h1
  clear e1 f1
  obtain ⟨a2, rfl, e2, f2, w2⟩ := open_int Tryd.underlying3 (hval 2 3 v2 rfl rfl) h2
  clear e2 f2
  clear hA0 hval0
  refine (crash_full s0.a s0.n s0.c s0.x a1 a2 W (glob_of hL) w0.2.2.2 w0.2.1.1).mono fun e W' ⟨he, bel⟩ => ?_
  subst he
  exact ⟨_, rfl, _, _, _, [], _, [], hW', trodAll_mk1 (shut_bool Tryd.underlying4 _), (trodAll_cons_mk (Below.trod Tryd.laidOut (by kernel_rfl) (of_decide_eq_true (by kernel_rfl)) k0 bel lt0) (trodAll_cons_mk (Below.trod Tryd.laidOut (by kernel_rfl) (of_decide_eq_true (by kernel_rfl)) k1 bel lt1) (trodAll_cons_mk (Below.trod Tryd.laidOut (by kernel_rfl) (of_decide_eq_true (by kernel_rfl)) k2 bel lt2) trodAll_mk0))), rfl, bel.frame _, fun h => by cases h⟩

theorem journalCrashes_holds : Rows.JournalCrashesSaid :=
  OpenClaim.holds_of_wide 7 Tryd.f7 rfl rfl rfl rfl rfl rfl rfl ⟨rfl, rfl, rfl, rfl, rfl⟩ rfl rfl rfl rfl rfl (by kernel_rfl) Tryd.func7 (by kernel_rfl)
    (of_decide_eq_true (by kernel_rfl)) (by unfold Func.isWrapper; first | (rw [if_pos (by decide +kernel)]; kernel_rfl) | (rw [if_neg (by decide +kernel)]; exact ⟨rfl, rfl⟩))
    (fun os started H enc _ => journalCrashes_lifted os started H enc)
set_option maxRecDepth 100000 in
theorem journalCrashesCard_holds : Rows.JournalCrashesCardSaid :=
  Claim7.holds_tied_plain_at .later [] [.data, .data] true (true, "1a62d10014719af0286edc1e591e48557e8193033c88d1af6fee85cb52dcb7be") false
    journalCrashes_holds (fun _ h => by cases h) (by kernel_rfl) (fun _ h => by cases h) journalCrashes_row_tie rfl ⟨rfl, rfl⟩ (by kernel_rfl) rfl
    (fun f fn hf hfn => by
      obtain rfl : f = 7 := Option.some.inj ((show Tryd.prog.funcNamed "sporran/sporranlaw16.JournalCrashes" = some 7 by kernel_rfl).symm.trans hf) |>.symm
      obtain rfl : fn = Tryd.f7 := (Option.some.inj (Tryd.func7.symm.trans hfn)).symm
      exact ⟨by kernel_rfl, fun j t ht => by
        rw [Tryd.params7] at ht
        have hm : t ∈ [46, 3, 3] := by simpa using Array.mem_of_getElem? ht
        have hall : ([46, 3, 3].all fun u => !Tryd.prog.wantsStandIn u) = true := by kernel_rfl
        exact (show Tryd.prog.wantsStandIn t = false by simpa using List.all_eq_true.1 hall t hm)⟩)
    (by kernel_rfl)
end Go.Proofs.YtbjbjgfjaopibaaDoor
end
