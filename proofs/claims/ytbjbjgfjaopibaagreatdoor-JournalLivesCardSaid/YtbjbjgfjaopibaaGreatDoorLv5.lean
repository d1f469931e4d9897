import Derived.Test.YtbjbjgfjaopibaaGreatDoorLv2
import Derived.Test.YtbjbjgfjaopibaaGreatDoorLv4
import Derived.Test.YtbjbjgfjaopibaaGreatDoorLv3
import Derived.WalkKit
import Derived.Laws.BitsLemmas
import Derived.Test.YtbjbjgfjaopibaaGreatDoorRows
import Derived.Test.YtbjbjgfjaopibaaGreatDoorLv1
import Derived.Deep.LoopGhost
import Derived.Deep.MidRow
section
/- size.Encode, walked. -/
namespace Go.Proofs.YtbjbjgfjaopibaaGreatDoor
open Go Go.RowKit
set_option linter.unusedSimpArgs false
set_option linter.unusedVariables false
set_option maxRecDepth 100000

/-- the nine bytes, j of the number's laid -/
def nineL (n j : Nat) : List Value := .int .u8 255 :: (u8s (leB n j) ++ List.replicate (8 - j) (.int .u8 0))
theorem nineL_len {n j : Nat} (h : j ≤ 8) : (nineL n j).length = 9 := by
  unfold nineL; rw [List.length_cons, List.length_append, u8s_length, leB_length, List.length_replicate]; omega
theorem nineL_set {n j : Nat} (h : j < 8) : (nineL n j).set (j + 1) (.int .u8 ((n / 2 ^ (8 * j) % 256 : Nat) : Int)) = nineL n (j + 1) := by
  have e : 8 - j = (8 - (j + 1)) + 1 := by omega
  unfold nineL
  rw [List.set_cons_succ, List.set_append, u8s_length, leB_length, if_neg (Nat.lt_irrefl j), Nat.sub_self, e, List.replicate_succ, List.set_cons_zero, ← leB_succ, u8s_append, List.append_assoc]
  rfl
theorem nineL_8 (n : Nat) : nineL n 8 = .int .u8 255 :: u8s (leB n 8) := by simp [nineL]
theorem leB_getD {n k i : Nat} (h : i < k) : (leB n k).getD i 0 = ((n / 2 ^ (8 * i) % 256 : Nat) : Int) := by simp [leB, List.getD, h]
theorem row_empty (w : World) (b : Nat) (h : Blk w b #[] 5) : Row w 5 (.slice (some ⟨b, 0, none⟩) 0 0) [] (some b) :=
  .inr ⟨b, 0, #[], rfl, rfl, h, Nat.le_refl _, Nat.le_refl _, (by decide), rfl⟩
/-- the bytes laid in a row of their own -/
theorem nine_row (n wid : Nat) (byt : Int) (g c : Nat) (w : World) (h8 : wid ≤ 8) (hb : Blk w g (.int .u8 byt :: u8s (leB n 8)).toArray 115) :
    ∃ p2 c2 w2 o2, (Builtin.append_ #[22, 22] 22 #[.slice (some ⟨w.heap.size, 0, none⟩) 0 0, .slice (some ⟨g, 0, none⟩) (wid + 1) c]).run Tryz.prog (w.alloc (.cells #[] 5)) = .ok (.slice p2 (wid + 1) c2) w2 ∧
      Row w2 5 (.slice p2 (wid + 1) c2) (byt :: leB n wid) o2 ∧ (∀ g, o2 = some g → w.heap.size ≤ g) ∧ Below w.heap.size w w2 := by
  obtain ⟨i0, hi, hz0, hz1, hz2⟩ := info_parts u8inf
  have ka := (Below.refl w.heap.size w).alloc (Nat.le_refl _) (.cells #[] 5)
  have hlen : (byt :: leB n wid).length = wid + 1 := by rw [List.length_cons, leB_length]
  obtain ⟨v2, w2, o2, run2, R2, ho2, k2⟩ := row_appendL (P := Tryz.prog) 22 22 i0 (.int .u8 0) Tryz.underlying22 hi hz0 hz1 hz2 rfl (row_empty (w.alloc (.cells #[] 5)) w.heap.size (Blk.new _ _ _)) (p := some ⟨g, 0, none⟩) (c := c) (ys := byt :: leB n wid) (Lib.BytesIn.of_cells fun i hi => by
    rw [hlen] at hi
    rw [Addr.add_lit, Nat.zero_add, (hb.beyond ka).cell]
    match i, hi with
    | 0, _ => rfl
    | j + 1, hj =>
      have e : (byt :: leB n wid).getD (j + 1) 0 = (leB n wid).getD j 0 := rfl
      rw [e, leB_getD (by omega)]
      simp [u8s, leB, show j < 8 from by omega]) (by rw [hlen]; simp; omega)
  have hst := own_step rfl ka (fun g hg => by cases hg; exact Nat.le_refl _) ho2 k2
  rw [hlen] at run2
  obtain ⟨p2, c2, rfl, _⟩ := R2.form
  rw [List.nil_append, hlen] at run2 R2
  exact ⟨p2, c2, w2, o2, run2, R2, hst⟩
set_option maxHeartbeats 1600000 in
theorem penc (n : Nat) (hn : n < 18446744073709551616) (w : World) : Calls Tryz.prog 64 #[.int .u64 (n : Int)] w fun e w' => ∃ p c o, e = .returned (.slice p (encS n).length c) ∧ Row w' 5 (.slice p (encS n).length c) (encS n) o ∧ (∀ g, o = some g → w.heap.size ≤ g) ∧ Below w.heap.size w w' := by
  by_cases h1 : n < 253
  · rw [encS_1 h1]
    refine (enc_small n h1 w).mono ?_
    rintro e w' ⟨rfl, rfl⟩
    exact ⟨_, _, some w.heap.size, rfl, .inr ⟨w.heap.size, 1, #[.int .u8 (n : Int)], rfl, rfl, Blk.new _ _ _, Nat.le_refl _, Nat.le_refl _, (by decide), rfl⟩, fun g hg => (by cases hg; exact Nat.le_refl _), (Below.refl _ _).alloc (Nat.le_refl _) _⟩
  · obtain ⟨i0, hi, hz0, hz1, hz2⟩ := info_parts u8inf
    have d1 : decide ((n : Int) < 253) = false := decide_eq_false (by omega)
    go_enter Tryz.func64, Tryz.ntmps64
    go_upto_region 4 with fail
    have b0 : Blk (w.alloc (.cells #[.int .u8 255, .int .u8 0, .int .u8 0, .int .u8 0, .int .u8 0, .int .u8 0, .int .u8 0, .int .u8 0, .int .u8 0] 115)) w.heap.size (nineL n 0).toArray 115 := Blk.new w _ _
    have k0 := (Below.refl w.heap.size w).alloc (Nat.le_refl _) (.cells #[.int .u8 255, .int .u8 0, .int .u8 0, .int .u8 0, .int .u8 0, .int .u8 0, .int .u8 0, .int .u8 0, .int .u8 0] 115)
    have H0 := Lib.hid (And.intro b0 k0)
    clear b0 k0 hi hz0 hz1 hz2
    generalize w.alloc (.cells #[.int .u8 255, .int .u8 0, .int .u8 0, .int .u8 0, .int .u8 0, .int .u8 0, .int .u8 0, .int .u8 0, .int .u8 0] 115) = W at *
    generalize hgw : w.heap.size = G at *
    go_wp2
    go_loopg [11] 8 (fun gh i wx => ∃ j : Nat, j ≤ 8 ∧ i = .int .i64 (j : Int) ∧ gh = 8 - j ∧ Hid (Blk wx G (nineL n j).toArray 115 ∧ Below G w wx))
    case atStart => exact ⟨0, Nat.zero_le _, rfl, rfl, H0.out⟩
    case round =>
      obtain ⟨j, hj, rfl, hg, HM⟩ := hrel
      have HG := Lib.hid hg
      clear hg
      by_cases hlt : j < 8
      · have a2 : IntKind.i64.wrap (8 * (j : Int)) = 8 * (j : Int) := by rw [IntKind.wrap_i64]; omega
        have dj : decide ((j : Int) < 8) = true := decide_eq_true (by omega)
        have c := HM.out.1.cell (j + 1)
        rw [List.getElem?_toArray, List.getElem?_eq_getElem (by rw [nineL_len hj]; omega)] at c
        have f := HM.out.1.free (j + 1)
        have hsz : (nineL n j).toArray.size = 9 := by rw [List.size_toArray, nineL_len hj]
        go_wp2
        go_roundg (8 - (j + 1))
        case measure => rw [HG.out]; omega
        case rel =>
          refine ⟨j + 1, hlt, rfl, rfl, ?_, HM.out.2.setCell (by rw [← hgw]; exact Nat.le_refl _) _⟩
          have e := HM.out.1.set (j + 1) (.int .u8 ((n / 2 ^ (8 * j) % 256 : Nat) : Int))
          rw [List.setIfInBounds_toArray, nineL_set hlt] at e
          rw [show ((n : Int) / 2 ^ (8 * j) % 256) = ((n / 2 ^ (8 * j) % 256 : Nat) : Int) from by simp]
          exact e
      · obtain rfl : j = 8 := by omega
        have b8 := HM.out.1
        rw [nineL_8] at b8
        have f8 := b8.free 0
        have c8 : wr.cell? ⟨G, 0, none⟩ = some (.int .u8 255) := by rw [b8.cell]; rfl
        have hGr : G ≤ wr.heap.size := by rw [← hgw]; exact HM.out.2.size
        by_cases h2 : n ≤ 65535
        · have d2 : decide ((n : Int) < 65536) = true := decide_eq_true (by omega)
          have b9 := b8.set 0 (.int .u8 253)
          rw [List.setIfInBounds_toArray] at b9
          have k9 := HM.out.2.setCell (p := ⟨G, 0, none⟩) (by rw [← hgw]; exact Nat.le_refl _) (.int .u8 253)
          have H9 := Lib.hid (And.intro b9 k9)
          have hGW : G ≤ (wr.setCell ⟨G, 0, none⟩ (.int .u8 253)).heap.size := by simp; exact hGr
          clear b8 b9 k9
          go_upto_region 11 with fail
          generalize wr.setCell ⟨G, 0, none⟩ (.int .u8 253) = W9 at *
          clear c8 f8
          obtain ⟨p2, c2, w2, o2, run2, R2, ho2, hb2⟩ := nine_row n 2 253 G 9 W9 (by decide) H9.out.1
          have HR2 := Lib.hid (And.intro R2 (And.intro (fun g hg => Nat.le_trans hGW (ho2 g hg)) (H9.out.2.trans (hb2.mono hGW))))
          clear R2 ho2 hb2
          change (Builtin.append_ #[22, 22] 22 #[.slice (some ⟨W9.heap.size, 0, none⟩) 0 0, .slice (some ⟨G, 0, none⟩) 3 9]).run Tryz.prog (W9.alloc (.cells #[] 5)) = .ok (.slice p2 3 c2) w2 at run2
          go_wp2_with (at_builtin; refine wpl_append rfl _ _ 22 rfl rfl rfl run2 ?_)
          go_ret
          obtain ⟨q1, q2, q3⟩ := HR2.out
          have hl : (253 :: leB n 2).length = 3 := by rw [List.length_cons, leB_length]
          rw [encS_3 h1 h2, hl]
          refine ⟨p2, c2, o2, rfl, q1, ?_, ?_⟩
          · rw [hgw]; exact q2
          · rw [hgw]; exact q3
        · have d2 : decide ((n : Int) < 65536) = false := decide_eq_false (by omega)
          by_cases h3 : n ≤ 4294967295
          · have d3 : decide ((n : Int) < 4294967296) = true := decide_eq_true (by omega)
            have b9 := b8.set 0 (.int .u8 254)
            rw [List.setIfInBounds_toArray] at b9
            have k9 := HM.out.2.setCell (p := ⟨G, 0, none⟩) (by rw [← hgw]; exact Nat.le_refl _) (.int .u8 254)
            have H9 := Lib.hid (And.intro b9 k9)
            have hGW : G ≤ (wr.setCell ⟨G, 0, none⟩ (.int .u8 254)).heap.size := by simp; exact hGr
            clear b8 b9 k9
            go_upto_region 14 with fail
            generalize wr.setCell ⟨G, 0, none⟩ (.int .u8 254) = W9 at *
            clear c8 f8
            obtain ⟨p2, c2, w2, o2, run2, R2, ho2, hb2⟩ := nine_row n 4 254 G 9 W9 (by decide) H9.out.1
            have HR2 := Lib.hid (And.intro R2 (And.intro (fun g hg => Nat.le_trans hGW (ho2 g hg)) (H9.out.2.trans (hb2.mono hGW))))
            clear R2 ho2 hb2
            change (Builtin.append_ #[22, 22] 22 #[.slice (some ⟨W9.heap.size, 0, none⟩) 0 0, .slice (some ⟨G, 0, none⟩) 5 9]).run Tryz.prog (W9.alloc (.cells #[] 5)) = .ok (.slice p2 5 c2) w2 at run2
            go_wp2_with (at_builtin; refine wpl_append rfl _ _ 22 rfl rfl rfl run2 ?_)
            go_ret
            obtain ⟨q1, q2, q3⟩ := HR2.out
            have hl : (254 :: leB n 4).length = 5 := by rw [List.length_cons, leB_length]
            rw [encS_5 h1 h2 h3, hl]
            refine ⟨p2, c2, o2, rfl, q1, ?_, ?_⟩
            · rw [hgw]; exact q2
            · rw [hgw]; exact q3
          · have d3 : decide ((n : Int) < 4294967296) = false := decide_eq_false (by omega)
            have H9 := Lib.hid (And.intro b8 HM.out.2)
            have hGW := hGr
            clear b8
            go_upto_region 15 with fail
            clear c8 f8
            obtain ⟨p2, c2, w2, o2, run2, R2, ho2, hb2⟩ := nine_row n 8 255 G 9 wr (by decide) H9.out.1
            have HR2 := Lib.hid (And.intro R2 (And.intro (fun g hg => Nat.le_trans hGW (ho2 g hg)) (H9.out.2.trans (hb2.mono hGW))))
            clear R2 ho2 hb2
            change (Builtin.append_ #[22, 22] 22 #[.slice (some ⟨wr.heap.size, 0, none⟩) 0 0, .slice (some ⟨G, 0, none⟩) 9 9]).run Tryz.prog (wr.alloc (.cells #[] 5)) = .ok (.slice p2 9 c2) w2 at run2
            go_wp2_with (at_builtin; refine wpl_append rfl _ _ 22 rfl rfl rfl run2 ?_)
            go_ret
            obtain ⟨q1, q2, q3⟩ := HR2.out
            have hl : (255 :: leB n 8).length = 9 := by rw [List.length_cons, leB_length]
            rw [encS_9 h1 h2 h3, hl]
            refine ⟨p2, c2, o2, rfl, q1, ?_, ?_⟩
            · rw [hgw]; exact q2
            · rw [hgw]; exact q3
end Go.Proofs.YtbjbjgfjaopibaaGreatDoor
end

section
/- The document's Number. -/
namespace Go.Proofs.YtbjbjgfjaopibaaGreatDoor
open Go Go.RowKit
set_option linter.unusedSimpArgs false
set_option linter.unusedVariables false
set_option maxRecDepth 100000

set_option maxHeartbeats 1600000 in
theorem rnum (ys : List Int) (q : Option Addr) (c : Nat) (w : World) (hy : Lib.BytesIn w q ys.length ys) (hr : ∀ y ∈ ys, 0 ≤ y ∧ y ≤ 255) (h8 : ys.length ≤ 8) :
    Calls Tryz.prog 61 #[.slice q ys.length c] w fun e w' => e = .returned (.int .u64 ((leN ys : Nat) : Int)) ∧ w = w' := by
  have HY := Lib.hid hy
  have HR := Lib.hid hr
  have H8 := Lib.hid h8
  obtain ⟨N, hN⟩ : ∃ N, N = ys.length := ⟨_, rfl⟩
  rw [← hN] at HY h8 ⊢
  have HN := Lib.hid hN
  clear hy hr hN
  go_enter Tryz.func61, Tryz.ntmps61
  go_wp2
  go_loopg [3, 8] N (fun gh s i wx => ∃ k t : Nat, k ≤ N ∧ s = .int .u64 (t : Int) ∧ i = .int .i64 (k : Int) ∧ gh = N - k ∧ Hid (t = leN (ys.take k)) ∧ wx = w)
  case atStart => exact ⟨0, 0, Nat.zero_le _, rfl, rfl, rfl, by rw [List.take_zero]; rfl, rfl⟩
  case round =>
    obtain ⟨k, t, hk, rfl, rfl, hg, HT, hwx⟩ := hrel
    obtain rfl : w = wr := hwx.symm
    have HGK := Lib.hid hg
    clear hg
    by_cases hlt : k < N
    · obtain ⟨b, o, rfl, hc⟩ := HY.out.at (by omega)
      have cb := hc k hlt
      have hst := le_step ys HR.out k (by rw [← HN.out]; exact hlt) H8.out
      have hx := getD_rng HR.out k
      generalize ys.getD k 0 = x at *
      rw [← HT.out] at hst
      generalize hu : leN (ys.take (k + 1)) = u at *
      have HU := Lib.hid hu
      obtain ⟨hx0, hx1⟩ := hx
      have a2 : IntKind.i64.wrap (8 * (k : Int)) = 8 * (k : Int) := by rw [IntKind.wrap_i64]; omega
      have hux : IntKind.u64.wrap x = x := IntWalk.u64_in _ (by omega)
      clear hc hu
      go_wp2
      go_roundg (N - (k + 1))
      case measure => rw [HGK.out]; omega
      case rel => exact ⟨k + 1, u, hlt, rfl, rfl, rfl, HU.out.symm, rfl⟩
    · obtain rfl : k = N := by omega
      go_wp2
      go_ret
      refine ⟨congrArg (fun n : Nat => Ending.returned (.int .u64 (n : Int))) ?_, rfl⟩
      rw [HT.out, List.take_of_length_le (by rw [HN.out]; exact Nat.le_refl _)]
end Go.Proofs.YtbjbjgfjaopibaaGreatDoor
end

section
/- Counts read: Decode, both sides. -/
namespace Go.Proofs.YtbjbjgfjaopibaaGreatDoor
open Go Go.RowKit
set_option linter.unusedSimpArgs false
set_option linter.unusedVariables false
set_option maxRecDepth 100000

theorem pcut (bs : List Int) (q : Option Addr) (c : Nat) (w : World) (hy : Lib.BytesIn w q bs.length bs) (hr : ∀ y ∈ bs, 0 ≤ y ∧ y ≤ 255) (hc : bs.length ≤ c) (hcm : c ≤ 9223372036854775807) (hl47 : bs.length ≤ 140737488355328) :
    Calls Tryz.prog 88 #[.slice q bs.length c] w (CutPost bs w) := by
  cases bs with
  | nil => exact pcut_nil q c w
  | cons b r =>
    obtain ⟨pb, po, rfl, hcl⟩ := hy.at (by simp)
    rw [List.length_cons] at hcl hc hl47 ⊢
    by_cases h0 : decW b = 0
    · exact pcut0 b r pb po c w hcl (hr b (List.mem_cons_self ..)) hc hcm hl47 h0
    · by_cases h1 : r.length < decW b
      · exact pcut_short b r _ pb po c w hcl hc hcm hl47 rfl (by omega) h1
      · exact pcutW b r _ pb po c w hcl (fun y hy => hr y (List.mem_cons_of_mem _ hy)) hc hcm hl47 rfl (by omega) (by omega)
/-- what 'Decode' answers -/
def DecPost (bs : List Int) (w : World) (e : Ending) (w' : World) : Prop :=
  ∃ (x : Int) (v : Value), e = .returned (.tuple #[.int .u64 x, v, .int .i64 (decE bs)]) ∧ Below w.heap.size w w' ∧ (decE bs = 0 → x = (decN bs : Int) ∧ ∃ o, Row w' 5 v (decR bs) o ∧ ∀ g, o = some g → w.heap.size ≤ g) ∧ (decE bs ≠ 0 → x = 0 ∧ v = .slice none 0 0)
theorem pdecode (bs : List Int) (q : Option Addr) (c : Nat) (w : World) (hy : Lib.BytesIn w q bs.length bs) (hr : ∀ y ∈ bs, 0 ≤ y ∧ y ≤ 255) (hc : bs.length ≤ c) (hcm : c ≤ 9223372036854775807) (hl47 : bs.length ≤ 140737488355328) :
    Calls Tryz.prog 79 #[.slice q bs.length c] w (DecPost bs w) := by
  have PC := Lib.hid (pcut bs q c w hy hr hc hcm hl47)
  clear hy hr hc
  go_enter Tryz.func79, Tryz.ntmps79
  go_wp2_with fail
  refine PC.out.mono ?_
  rintro e w1 ⟨x, v, rfl, hb, h0, h1⟩
  by_cases hE : decE bs = 0
  · obtain ⟨hx, p, c2, rfl, hyr, hle, ⟨hcm2, hl2⟩, a, rfl⟩ := h0 hE
    have PQ := Lib.hid (Tryz.bytes_Clone_at a (decR bs).length c2 (decR bs) w1 rfl (by omega) (fun i hi => by
      obtain ⟨b, o2, e1, hcc⟩ := hyr.at (by omega)
      cases e1
      rw [Addr.add_lit]; exact hcc i hi))
    have HH := Lib.hid (And.intro hb (And.intro hE hx))
    clear hb h0 h1 hE hx hyr
    go_wp2_with fail
    refine PQ.out.mono ?_
    rintro e w2 ⟨v', rfl, hown, hne, hbel⟩
    obtain ⟨o', r1, r2, r3⟩ := Row.of_owns hown
    have HF := Lib.hid (And.intro r1 (And.intro r2 hbel))
    clear r1 r2 r3 hown hne hbel
    go_wp2
    exact bodyPost_ret (results_tmp3 Tryz.results79 _ _ _) rfl ⟨x, v', rfl, HH.out.1.trans (HF.out.2.2.mono HH.out.1.size), fun _ => ⟨HH.out.2.2, o', HF.out.1, fun g hg => Nat.le_trans HH.out.1.size (HF.out.2.1 g hg).1⟩, fun hn => absurd HH.out.2.1 hn⟩
  · obtain ⟨rfl, rfl⟩ := h1 hE
    have PQ := Lib.hid (Tryz.bytes_Clone_nil 0 0 w1)
    have HH := Lib.hid (And.intro hb hE)
    clear hb h0 h1 hE
    go_wp2_with fail
    refine PQ.out.mono ?_
    rintro e w2 ⟨rfl, rfl⟩
    go_wp2
    exact bodyPost_ret (results_tmp3 Tryz.results79 _ _ _) rfl ⟨0, _, rfl, HH.out.1, fun h => absurd h HH.out.2, fun _ => ⟨rfl, rfl⟩⟩
end Go.Proofs.YtbjbjgfjaopibaaGreatDoor
end

section
/- Texts: size.Text, size.ReadText. -/
namespace Go.Proofs.YtbjbjgfjaopibaaGreatDoor
open Go Go.RowKit
set_option linter.unusedSimpArgs false
set_option linter.unusedVariables false
set_option maxRecDepth 100000

set_option maxHeartbeats 1600000 in
theorem ptext (xs : List Int) (q : Option Addr) (c : Nat) (w : World) (hy : Lib.BytesIn w q xs.length xs) (hl : xs.length ≤ 140737488351232) :
    Calls Tryz.prog 82 #[.slice q xs.length c] w fun e w' => ∃ p c' o, e = .returned (.slice p (txtB xs).length c') ∧ Row w' 5 (.slice p (txtB xs).length c') (txtB xs) o ∧ (∀ g, o = some g → w.heap.size ≤ g) ∧ Below w.heap.size w w' := by
  obtain ⟨i0, hi, hz0, hz1, hz2⟩ := info_parts u8inf
  have HI := Lib.hid (And.intro hi (And.intro hz0 (And.intro hz1 (And.intro hz2 hy))))
  clear hi hz0 hz1 hz2 hy
  have PE := Lib.hid (penc xs.length (by omega) w)
  have hn9 := (encS_ne xs.length).2
  obtain ⟨n, hn⟩ : ∃ n, n = xs.length := ⟨_, rfl⟩
  rw [← hn] at PE hn9 hl ⊢
  have HN := Lib.hid hn
  clear hn
  go_enter Tryz.func82, Tryz.ntmps82
  go_wp2_with fail
  refine PE.out.mono ?_
  rintro e w1 ⟨p1, c1, o1, rfl, R1, ho1, hb1⟩
  have kb := Keep.of_below (X := fun _ => False) hb1
  have hy1 := bytes_keep HI.out.2.2.2.2 kb (fun _ _ _ h => h)
  obtain ⟨v2, w2, o2, run2, R2, ho2, k2⟩ := row_appendL (P := Tryz.prog) 22 22 i0 (.int .u8 0) Tryz.underlying22 HI.out.1 HI.out.2.1 HI.out.2.2.1 HI.out.2.2.2.1 rfl R1 (p := q) (c := c) (ys := xs) hy1 (by rw [← HN.out]; omega)
  have hst := own_step rfl hb1 ho1 ho2 k2
  have e2 : encS n ++ xs = txtB xs := by unfold txtB; rw [← HN.out]
  rw [e2] at R2
  rw [← HN.out] at run2
  have HF := Lib.hid (And.intro R2 hst)
  obtain ⟨p2, c2, rfl, _⟩ := R2.form
  clear R1 ho1 hb1 kb hy1 R2 ho2 k2 hst e2
  go_wp2_with (at_builtin; refine wpl_append rfl _ _ 22 rfl rfl rfl run2 ?_)
  go_ret
  exact ⟨p2, c2, o2, rfl, HF.out.1, HF.out.2.1, HF.out.2.2⟩
/-- what 'ReadText' answers -/
def TxtPost (bs : List Int) (most : Nat) (w : World) (e : Ending) (w' : World) : Prop :=
  ∃ v1 v2 : Value, e = .returned (.tuple #[v1, v2, .int .i64 (rtE bs most)]) ∧ Below w.heap.size w w' ∧
    (rtE bs most = 0 → ∃ o1 o2, Row w' 5 v1 (rtX bs) o1 ∧ Row w' 5 v2 (rtR bs) o2 ∧ (∀ g, o1 = some g → w.heap.size ≤ g) ∧ (∀ g, o2 = some g → w.heap.size ≤ g) ∧ (∀ g, o1 = some g → o2 ≠ some g)) ∧
    (rtE bs most ≠ 0 → v1 = .slice none 0 0 ∧ v2 = .slice none 0 0)
theorem TxtPost.err {bs : List Int} {most : Nat} {w w' : World} {E : Int} (h : rtE bs most = E) (hE : E ≠ 0) (hb : Below w.heap.size w w') : TxtPost bs most w (.returned (.tuple #[.slice none 0 0, .slice none 0 0, .int .i64 E])) w' :=
  ⟨_, _, by rw [h], hb, fun h0 => absurd (h.symm.trans h0) hE, fun _ => ⟨rfl, rfl⟩⟩
theorem TxtPost.okA {bs : List Int} {most : Nat} {w v1 v2 : World} {x y : Value} {oa ob : Option Nat} (h : rtE bs most = 0) (hb1 : Below w.heap.size w v1) (Ra : Row v1 5 x (rtX bs) oa) (ha : ∀ g, oa = some g → w.heap.size ≤ g) (hb2 : Below v1.heap.size v1 v2) (Rb : Row v2 5 y (rtR bs) ob) (hob : ∀ g, ob = some g → v1.heap.size ≤ g) :
    TxtPost bs most w (.returned (.tuple #[x, y, .int .i64 0])) v2 :=
  ⟨x, y, by rw [h], hb1.trans (hb2.mono hb1.size), fun _ => ⟨oa, ob, Ra.keep (X := fun _ => False) (Keep.of_below hb2) (fun _ _ h => h), Rb, ha, fun g hg => Nat.le_trans hb1.size (hob g hg), fun g h1 h2 => by have := Ra.lt g h1; have := hob g h2; omega⟩, fun h0 => absurd h h0⟩
theorem TxtPost.okB {bs : List Int} {most : Nat} {w v1 v2 : World} {x y : Value} {oa ob : Option Nat} (h : rtE bs most = 0) (hb1 : Below w.heap.size w v1) (Rb : Row v1 5 y (rtR bs) ob) (hob : ∀ g, ob = some g → w.heap.size ≤ g) (hb2 : Below v1.heap.size v1 v2) (Ra : Row v2 5 x (rtX bs) oa) (ha : ∀ g, oa = some g → v1.heap.size ≤ g) :
    TxtPost bs most w (.returned (.tuple #[x, y, .int .i64 0])) v2 :=
  ⟨x, y, by rw [h], hb1.trans (hb2.mono hb1.size), fun _ => ⟨oa, ob, Ra, Rb.keep (X := fun _ => False) (Keep.of_below hb2) (fun _ _ h => h), fun g hg => Nat.le_trans hb1.size (ha g hg), hob, fun g h1 h2 => by have := Rb.lt g h2; have := ha g h1; omega⟩, fun h0 => absurd h h0⟩
/-- a part of bytes, cloned, whatever has been made meanwhile -/
theorem clone_part {W : World} {p : Option Addr} {n c : Nat} {xs : List Int} (hn : xs.length = n) (hy : Lib.BytesIn W p n xs) (hl : n ≤ 140737488355328) (hc : n ≤ c) (hz : p = none → c = 0) (w : World) (hb : Below W.heap.size W w) :
    Calls Tryz.prog 9 #[.slice p n c] w fun e w' => ∃ q c' o, e = .returned (.slice q n c') ∧ Row w' 5 (.slice q n c') xs o ∧ (∀ g, o = some g → w.heap.size ≤ g) ∧ Below w.heap.size w w' := by
  subst hn
  have hy' := bytes_keep hy (Keep.of_below (X := fun _ => False) hb) (fun _ _ _ h => h)
  cases p with
  | none =>
    obtain rfl := hz rfl
    have h0 : xs.length = 0 := by omega
    obtain rfl := List.eq_nil_of_length_eq_zero h0
    exact (Tryz.bytes_Clone_nil 0 0 w).mono fun e w' ⟨h1, h2⟩ => by subst h1; subst h2; exact ⟨none, 0, none, rfl, Row.nil _ _, fun g hg => (by cases hg), Below.refl _ _⟩
  | some a =>
    refine (Tryz.bytes_Clone_at a xs.length c xs w rfl hl (fun i hi => by
      obtain ⟨b, o2, e1, hcc⟩ := hy'.at (by omega)
      cases e1
      rw [Addr.add_lit]; exact hcc i hi)).mono ?_
    rintro e w2 ⟨v', rfl, hown, hne, hbel⟩
    obtain ⟨o', r1, r2, r3⟩ := Row.of_owns hown
    obtain ⟨q, c', rfl, _⟩ := r1.form
    exact ⟨q, c', o', rfl, r1, fun g hg => (r2 g hg).1, hbel⟩
set_option maxHeartbeats 3200000 in
theorem preadtext (bs : List Int) (M : Nat) (q : Option Addr) (c : Nat) (w : World) (hy : Lib.BytesIn w q bs.length bs) (hr : ∀ y ∈ bs, 0 ≤ y ∧ y ≤ 255) (hc : bs.length ≤ c) (hcm : c ≤ 9223372036854775807) (hl47 : bs.length ≤ 140737488355328) (hM : M ≤ 1000000) :
    Calls Tryz.prog 80 #[.slice q bs.length c, .int .i64 (M : Int)] w (TxtPost bs M w) := by
  have PC := Lib.hid (pcut bs q c w hy hr hc hcm hl47)
  have hN64 : decE bs = 0 → decN bs < 18446744073709551616 := fun h => (enc_dec hr h).2
  have HT := Lib.hid (show rtE bs M = if decE bs = 0 then (if M < decN bs then 4 else if (decR bs).length < decN bs then 50 else 0) else decE bs from rfl)
  clear hy hr hc
  have m0 : decide ((M : Int) < 0) = false := decide_eq_false (by omega)
  have m1 : (0 : Int) ≤ (M : Int) := by omega
  go_enter Tryz.func80, Tryz.ntmps80
  go_wp2_with fail
  refine PC.out.mono ?_
  rintro e w1 ⟨x, v, rfl, hb, h0, h1⟩
  by_cases hE : decE bs = 0
  · obtain ⟨hx, p, c2, rfl, hyr, hle, ⟨hcm2, hl2⟩, a, rfl⟩ := h0 hE
    have hN := hN64 hE
    rw [if_pos hE] at HT
    have HX := Lib.hid (show rtX bs = (decR bs).take (decN bs) from rfl)
    have HRR := Lib.hid (show rtR bs = (decR bs).drop (decN bs) from rfl)
    rw [hE]
    subst hx
    generalize decR bs = r at *
    generalize decN bs = n at *
    obtain ⟨m, hm⟩ : ∃ m, m = r.length := ⟨_, rfl⟩
    rw [← hm] at hyr hle hl2 HT ⊢
    have HH := Lib.hid (And.intro hb (And.intro hm hyr))
    clear hb h0 h1 hE hN64 hm hyr
    by_cases hb1 : M < n
    · rw [if_pos hb1] at HT
      go_wp2
      exact bodyPost_ret (results_tmp3 Tryz.results80 _ _ _) rfl (TxtPost.err HT.out (by decide) HH.out.1)
    · rw [if_neg hb1] at HT
      by_cases hb2 : m < n
      · rw [if_pos hb2] at HT
        have k2 : (m : Int) < (n : Int) := by omega
        go_wp2
        exact bodyPost_ret (results_tmp3 Tryz.results80 _ _ _) rfl (TxtPost.err HT.out (by decide) HH.out.1)
      · rw [if_neg hb2] at HT
        have hnm : n ≤ m := by omega
        have P1 : ∀ w', Below w1.heap.size w1 w' → Calls Tryz.prog 9 #[.slice (some a) n n] w' fun e w'' => ∃ q c' o, e = .returned (.slice q n c') ∧ Row w'' 5 (.slice q n c') (r.take n) o ∧ (∀ g, o = some g → w'.heap.size ≤ g) ∧ Below w'.heap.size w' w'' := fun w' hb' =>
          clone_part (W := w1) (by rw [List.length_take]; have := HH.out.2.1; omega) (fun h0' => by
            obtain ⟨b, o2, e1, hcc⟩ := HH.out.2.2.at (by omega)
            exact ⟨b, o2, e1, fun i hi => by rw [hcc i (by omega)]; simp [List.getD_eq_getElem?_getD, List.getElem?_take, hi]⟩) (by omega) (Nat.le_refl _) (fun h => by cases h) w' hb'
        have P2 : ∀ p2, (n < m → p2 = some (a.add n)) → (p2 = none → c2 - n = 0) → ∀ w', Below w1.heap.size w1 w' → Calls Tryz.prog 9 #[.slice p2 (m - n) (c2 - n)] w' fun e w'' => ∃ q c' o, e = .returned (.slice q (m - n) c') ∧ Row w'' 5 (.slice q (m - n) c') (r.drop n) o ∧ (∀ g, o = some g → w'.heap.size ≤ g) ∧ Below w'.heap.size w' w'' := fun p2 hp hz w' hb' =>
          clone_part (W := w1) (by rw [List.length_drop]; have := HH.out.2.1; omega) (fun h0' => by
            obtain ⟨b, o2, e1, hcc⟩ := HH.out.2.2.at (by omega)
            cases e1
            refine ⟨b, o2 + n, by rw [hp (by omega), Addr.add_lit], fun i hi => ?_⟩
            rw [Nat.add_assoc, hcc (n + i) (by omega)]
            simp [List.getD_eq_getElem?_getD, List.getElem?_drop]) (by omega) (by omega) hz w' hb'
        have P1 := Lib.hid P1
        have P2 := Lib.hid P2
        have n0 : (0 : Int) ≤ (n : Int) := by omega
        have n1 : (n : Int) ≤ (c2 : Int) := by omega
        have n2 : (n : Int) ≤ (m : Int) := by omega
        rw [← HX.out] at P1
        rw [← HRR.out] at P2
        clear HX HRR
        by_cases hcn : c2 = n
        · obtain rfl : n = m := by omega
          have P2 := Lib.hid (P2.out (some a) (fun h => absurd h (Nat.lt_irrefl _)) (fun h => by cases h))
          subst hcn
          rw [Nat.sub_self] at P2
          go_upto_region 9 with fail
          refine wp_region_held_drew (S := fun w' => Below w1.heap.size w1 w') (by kernel_rfl) ((Below.refl _ _).drew) (fun hS => ?_)
          refine tkH 0 (v := ?_) rfl (by kernel_rfl) ⟨by rfl, ?_⟩ hS ?_
          rotate_left
          · intro w0 hs; clear hs; go_simp; try (with_reducible rfl)
          try simp only [Act.put, List.setIfInBounds_toArray, List.set_cons_zero, List.set_cons_succ]
          refine tkH 1 (v := ?_) rfl (by kernel_rfl) ⟨by rfl, ?_⟩ hS ?_
          rotate_left
          · intro w0 hs; clear hs; go_simp; try (with_reducible rfl)
          try simp only [Act.put, List.setIfInBounds_toArray, List.set_cons_zero, List.set_cons_succ]
          refine tkH 2 (v := ?_) rfl (by kernel_rfl) ⟨by rfl, ?_⟩ hS ?_
          rotate_left
          · intro w0 hs; clear hs; go_simp; try (with_reducible rfl)
          try simp only [Act.put, List.setIfInBounds_toArray, List.set_cons_zero, List.set_cons_succ]
          refine tkH 3 (v := ?_) rfl (by kernel_rfl) ⟨by rfl, ?_⟩ hS ?_
          rotate_left
          · intro w0 hs; clear hs; go_simp; try (with_reducible rfl)
          try simp only [Act.put, List.setIfInBounds_toArray, List.set_cons_zero, List.set_cons_succ]
          refine tkH 5 (v := ?_) rfl (by kernel_rfl) ⟨by rfl, ?_⟩ hS ?_
          rotate_left
          · intro w0 hs; clear hs; go_simp; try (with_reducible rfl)
          try simp only [Act.put, List.setIfInBounds_toArray, List.set_cons_zero, List.set_cons_succ]
          refine tkH 6 (v := ?_) rfl (by kernel_rfl) ⟨by rfl, ?_⟩ hS ?_
          rotate_left
          · intro w0 hs; clear hs; go_simp; try (with_reducible rfl)
          try simp only [Act.put, List.setIfInBounds_toArray, List.set_cons_zero, List.set_cons_succ]
          refine tkH 7 (v := ?_) rfl (by kernel_rfl) ⟨by rfl, ?_⟩ hS ?_
          rotate_left
          · intro w0 hs; clear hs; go_simp; try (with_reducible rfl)
          try simp only [Act.put, List.setIfInBounds_toArray, List.set_cons_zero, List.set_cons_succ]
          refine wpAnyH_ready (rs := [4]) (by kernel_rfl) (by simp) ?_
          refine AllReadyH.cons (o := ⟨_, _, _, _, _, _⟩) rfl (fun K hK => ?_) AllReadyH.nil
          rw [if_pos (by rfl)]
          go_step
          refine (P1.out _ hS).mono ?_
          rintro e v1 ⟨qa, ca, oa, rfl, Ra, hoa, hb1⟩
          simp only []
          refine hK.out _ _ (hS.trans (hb1.mono hS.size)) (fun hS' => ?_)
          clear hS hK
          have hS := hS'; clear hS'
          try simp only [Act.put, List.setIfInBounds_toArray, List.set_cons_zero, List.set_cons_succ]
          refine wpAnyH_ready (rs := [8]) (by kernel_rfl) (by simp) ?_
          refine AllReadyH.cons (o := ⟨_, _, _, _, _, _⟩) rfl (fun K hK => ?_) AllReadyH.nil
          rw [if_pos (by rfl)]
          go_step
          refine (P2.out _ hS).mono ?_
          rintro e v2 ⟨qb, cb, ob, rfl, Rb, hob, hb2⟩
          simp only []
          refine hK.out _ _ (hS.trans (hb2.mono hS.size)) (fun hS' => ?_)
          clear hS hK
          have hS := hS'; clear hS'
          try simp only [Act.put, List.setIfInBounds_toArray, List.set_cons_zero, List.set_cons_succ]
          refine tkH 9 (v := ?_) rfl (by kernel_rfl) ⟨by rfl, ?_⟩ hS ?_
          rotate_left
          · intro w0 hs; clear hs; go_simp; try (with_reducible rfl)
          try simp only [Act.put, List.setIfInBounds_toArray, List.set_cons_zero, List.set_cons_succ]
          refine tkH 10 (v := ?_) rfl (by kernel_rfl) ⟨by rfl, ?_⟩ hS ?_
          rotate_left
          · intro w0 hs; clear hs; go_simp; try (with_reducible rfl)
          try simp only [Act.put, List.setIfInBounds_toArray, List.set_cons_zero, List.set_cons_succ]
          refine tkH 11 (v := ?_) rfl (by kernel_rfl) ⟨by rfl, ?_⟩ hS ?_
          rotate_left
          · intro w0 hs; clear hs; go_simp; try (with_reducible rfl)
          try simp only [Act.put, List.setIfInBounds_toArray, List.set_cons_zero, List.set_cons_succ]
          refine wpAnyH_done (by kernel_rfl) ?_ _
          go_wp2
          first | exact bodyPost_ret (results_tmp3 Tryz.results80 _ _ _) rfl (TxtPost.okA HT.out (HH.out.1.trans (((Below.refl w1.heap.size w1).drew.trans hb1).mono HH.out.1.size)) Ra (fun g hg => Nat.le_trans HH.out.1.size (hoa g hg)) hb2 Rb hob) | exact bodyPost_ret (results_tmp3 Tryz.results80 _ _ _) rfl (TxtPost.okB HT.out (HH.out.1.trans (((Below.refl w1.heap.size w1).drew.trans hb1).mono HH.out.1.size)) Rb (fun g hg => Nat.le_trans HH.out.1.size (hob g hg)) hb2 Ra hoa)
        · go_upto_region 9 with fail
          refine wp_region_held_drew (S := fun w' => Below w1.heap.size w1 w') (by kernel_rfl) ((Below.refl _ _).drew) (fun hS => ?_)
          refine tkH 0 (v := ?_) rfl (by kernel_rfl) ⟨by rfl, ?_⟩ hS ?_
          rotate_left
          · intro w0 hs; clear hs; go_simp; try (with_reducible rfl)
          try simp only [Act.put, List.setIfInBounds_toArray, List.set_cons_zero, List.set_cons_succ]
          refine tkH 1 (v := ?_) rfl (by kernel_rfl) ⟨by rfl, ?_⟩ hS ?_
          rotate_left
          · intro w0 hs; clear hs; go_simp; try (with_reducible rfl)
          try simp only [Act.put, List.setIfInBounds_toArray, List.set_cons_zero, List.set_cons_succ]
          refine tkH 2 (v := ?_) rfl (by kernel_rfl) ⟨by rfl, ?_⟩ hS ?_
          rotate_left
          · intro w0 hs; clear hs; go_simp; try (with_reducible rfl)
          try simp only [Act.put, List.setIfInBounds_toArray, List.set_cons_zero, List.set_cons_succ]
          refine tkH 3 (v := ?_) rfl (by kernel_rfl) ⟨by rfl, ?_⟩ hS ?_
          rotate_left
          · intro w0 hs; clear hs; go_simp; try (with_reducible rfl)
          try simp only [Act.put, List.setIfInBounds_toArray, List.set_cons_zero, List.set_cons_succ]
          refine tkH 5 (v := ?_) rfl (by kernel_rfl) ⟨by rfl, ?_⟩ hS ?_
          rotate_left
          · intro w0 hs; clear hs; go_simp; try (with_reducible rfl)
          try simp only [Act.put, List.setIfInBounds_toArray, List.set_cons_zero, List.set_cons_succ]
          refine tkH 6 (v := ?_) rfl (by kernel_rfl) ⟨by rfl, ?_⟩ hS ?_
          rotate_left
          · intro w0 hs; clear hs; go_simp; try (with_reducible rfl)
          try simp only [Act.put, List.setIfInBounds_toArray, List.set_cons_zero, List.set_cons_succ]
          refine tkH 7 (v := ?_) rfl (by kernel_rfl) ⟨by rfl, ?_⟩ hS ?_
          rotate_left
          · intro w0 hs; clear hs; go_simp; try (with_reducible rfl)
          try simp only [Act.put, List.setIfInBounds_toArray, List.set_cons_zero, List.set_cons_succ]
          refine wpAnyH_ready (rs := [4]) (by kernel_rfl) (by simp) ?_
          refine AllReadyH.cons (o := ⟨_, _, _, _, _, _⟩) rfl (fun K hK => ?_) AllReadyH.nil
          rw [if_pos (by rfl)]
          go_step
          refine (P1.out _ hS).mono ?_
          rintro e v1 ⟨qa, ca, oa, rfl, Ra, hoa, hb1⟩
          simp only []
          refine hK.out _ _ (hS.trans (hb1.mono hS.size)) (fun hS' => ?_)
          clear hS hK
          have hS := hS'; clear hS'
          try simp only [Act.put, List.setIfInBounds_toArray, List.set_cons_zero, List.set_cons_succ]
          refine wpAnyH_ready (rs := [8]) (by kernel_rfl) (by simp) ?_
          refine AllReadyH.cons (o := ⟨_, _, _, _, _, _⟩) rfl (fun K hK => ?_) AllReadyH.nil
          rw [if_pos (by rfl)]
          go_step
          refine (P2.out _ (fun _ => rfl) (fun h => by cases h) _ hS).mono ?_
          rintro e v2 ⟨qb, cb, ob, rfl, Rb, hob, hb2⟩
          simp only []
          refine hK.out _ _ (hS.trans (hb2.mono hS.size)) (fun hS' => ?_)
          clear hS hK
          have hS := hS'; clear hS'
          try simp only [Act.put, List.setIfInBounds_toArray, List.set_cons_zero, List.set_cons_succ]
          refine tkH 9 (v := ?_) rfl (by kernel_rfl) ⟨by rfl, ?_⟩ hS ?_
          rotate_left
          · intro w0 hs; clear hs; go_simp; try (with_reducible rfl)
          try simp only [Act.put, List.setIfInBounds_toArray, List.set_cons_zero, List.set_cons_succ]
          refine tkH 10 (v := ?_) rfl (by kernel_rfl) ⟨by rfl, ?_⟩ hS ?_
          rotate_left
          · intro w0 hs; clear hs; go_simp; try (with_reducible rfl)
          try simp only [Act.put, List.setIfInBounds_toArray, List.set_cons_zero, List.set_cons_succ]
          refine tkH 11 (v := ?_) rfl (by kernel_rfl) ⟨by rfl, ?_⟩ hS ?_
          rotate_left
          · intro w0 hs; clear hs; go_simp; try (with_reducible rfl)
          try simp only [Act.put, List.setIfInBounds_toArray, List.set_cons_zero, List.set_cons_succ]
          refine wpAnyH_done (by kernel_rfl) ?_ _
          go_wp2
          first | exact bodyPost_ret (results_tmp3 Tryz.results80 _ _ _) rfl (TxtPost.okA HT.out (HH.out.1.trans (((Below.refl w1.heap.size w1).drew.trans hb1).mono HH.out.1.size)) Ra (fun g hg => Nat.le_trans HH.out.1.size (hoa g hg)) hb2 Rb hob) | exact bodyPost_ret (results_tmp3 Tryz.results80 _ _ _) rfl (TxtPost.okB HT.out (HH.out.1.trans (((Below.refl w1.heap.size w1).drew.trans hb1).mono HH.out.1.size)) Rb (fun g hg => Nat.le_trans HH.out.1.size (hob g hg)) hb2 Ra hoa)
  · obtain ⟨rfl, rfl⟩ := h1 hE
    rw [if_neg hE] at HT
    have hne : (decE bs != 0) = true := by simpa using hE
    generalize decE bs = E at *
    have HH := Lib.hid (And.intro hb hE)
    clear hb h0 h1 hE hN64
    go_wp2
    exact bodyPost_ret (results_tmp3 Tryz.results80 _ _ _) rfl (TxtPost.err HT.out HH.out.2 HH.out.1)
end Go.Proofs.YtbjbjgfjaopibaaGreatDoor
end

section
/- SHA-256, plainly: words of 32 bits. No program in sight. -/
namespace Go.Proofs.YtbjbjgfjaopibaaGreatDoor
open Go
set_option linter.unusedVariables false

abbrev B32 := BitVec 32
def ror (x : B32) (n : Nat) : B32 := x.rotateRight n
def sg0 (x : B32) : B32 := ror x 7 ^^^ ror x 18 ^^^ (x >>> 3)
def sg1 (x : B32) : B32 := ror x 17 ^^^ ror x 19 ^^^ (x >>> 10)
def Sg0 (x : B32) : B32 := ror x 2 ^^^ ror x 13 ^^^ ror x 22
def Sg1 (x : B32) : B32 := ror x 6 ^^^ ror x 11 ^^^ ror x 25
def chs (e f g : B32) : B32 := (e &&& f) ^^^ (~~~e &&& g)
def maj (a b c : B32) : B32 := (a &&& b) ^^^ (a &&& c) ^^^ (b &&& c)
theorem chs_alt (e f g : B32) : g ^^^ (e &&& (f ^^^ g)) = chs e f g := by
  unfold chs
  apply BitVec.eq_of_getLsbD_eq
  intro i hi
  simp only [BitVec.getLsbD_xor, BitVec.getLsbD_and, BitVec.getLsbD_not]
  cases e.getLsbD i <;> cases f.getLsbD i <;> cases g.getLsbD i <;> simp [hi]
theorem maj_alt (a b c : B32) : (a &&& b) ||| (c &&& (a ||| b)) = maj a b c := by
  unfold maj
  apply BitVec.eq_of_getLsbD_eq
  intro i hi
  simp only [BitVec.getLsbD_xor, BitVec.getLsbD_and, BitVec.getLsbD_or]
  cases a.getLsbD i <;> cases b.getLsbD i <;> cases c.getLsbD i <;> rfl
def shaK : List Nat := [
  0x428a2f98, 0x71374491, 0xb5c0fbcf, 0xe9b5dba5, 0x3956c25b, 0x59f111f1, 0x923f82a4, 0xab1c5ed5,
  0xd807aa98, 0x12835b01, 0x243185be, 0x550c7dc3, 0x72be5d74, 0x80deb1fe, 0x9bdc06a7, 0xc19bf174,
  0xe49b69c1, 0xefbe4786, 0x0fc19dc6, 0x240ca1cc, 0x2de92c6f, 0x4a7484aa, 0x5cb0a9dc, 0x76f988da,
  0x983e5152, 0xa831c66d, 0xb00327c8, 0xbf597fc7, 0xc6e00bf3, 0xd5a79147, 0x06ca6351, 0x14292967,
  0x27b70a85, 0x2e1b2138, 0x4d2c6dfc, 0x53380d13, 0x650a7354, 0x766a0abb, 0x81c2c92e, 0x92722c85,
  0xa2bfe8a1, 0xa81a664b, 0xc24b8b70, 0xc76c51a3, 0xd192e819, 0xd6990624, 0xf40e3585, 0x106aa070,
  0x19a4c116, 0x1e376c08, 0x2748774c, 0x34b0bcb5, 0x391c0cb3, 0x4ed8aa4a, 0x5b9cca4f, 0x682e6ff3,
  0x748f82ee, 0x78a5636f, 0x84c87814, 0x8cc70208, 0x90befffa, 0xa4506ceb, 0xbef9a3f7, 0xc67178f2]
def kw (i : Nat) : B32 := BitVec.ofNat 32 (shaK.getD i 0)
/-- the words of a block -/
def shw (m : Nat → B32) : Nat → B32
  | i => if h : i < 16 then m i else sg1 (shw m (i - 2)) + shw m (i - 7) + sg0 (shw m (i - 15)) + shw m (i - 16)
termination_by i => i
theorem shw_lo (m : Nat → B32) (i : Nat) (h : i < 16) : shw m i = m i := by rw [shw, dif_pos h]
theorem shw_hi (m : Nat → B32) (i : Nat) (h : 16 ≤ i) : shw m i = sg1 (shw m (i - 2)) + shw m (i - 7) + sg0 (shw m (i - 15)) + shw m (i - 16) := by rw [shw, dif_neg (by omega)]
def T1 (s : Nat → B32) (k w : B32) : B32 := s 7 + Sg1 (s 4) + chs (s 4) (s 5) (s 6) + k + w
def T2 (s : Nat → B32) : B32 := Sg0 (s 0) + maj (s 0) (s 1) (s 2)
def rnd (s : Nat → B32) (k w : B32) (i : Nat) : B32 := if i = 0 then T1 s k w + T2 s else if i = 4 then s 3 + T1 s k w else s (i - 1)
def rnds (m s : Nat → B32) : Nat → Nat → B32
  | 0 => s
  | i + 1 => rnd (rnds m s i) (kw i) (shw m i)
/-- a block is taken -/
def blockS (s m : Nat → B32) (i : Nat) : B32 := s i + rnds m s 64 i
/-- four bytes are a word, the highest first -/
def be4 (x0 x1 x2 x3 : Int) : B32 := BitVec.ofInt 32 (((x0 * 256 + x1) * 256 + x2) * 256 + x3)
/-- the words of 64 bytes at a place -/
def msgAt (bs : List Int) (at' : Nat) (i : Nat) : B32 := be4 (bs.getD (at' + 4 * i) 0) (bs.getD (at' + 4 * i + 1) 0) (bs.getD (at' + 4 * i + 2) 0) (bs.getD (at' + 4 * i + 3) 0)
def s0 (i : Nat) : B32 := BitVec.ofNat 32 ([0x6a09e667, 0xbb67ae85, 0x3c6ef372, 0xa54ff53a, 0x510e527f, 0x9b05688c, 0x1f83d9ab, 0x5be0cd19].getD i 0)
/-- so many blocks are taken -/
def blocksS (bs : List Int) : Nat → Nat → B32
  | 0 => s0
  | n + 1 => blockS (blocksS bs n) (msgAt bs (64 * n))
/-- how many noughts stand behind the byte 128 -/
def zpad (n : Nat) : Nat := (119 - n % 64) % 64
/-- the number of bits, the highest byte first -/
def bits8 (n : Nat) : List Int := (List.range 8).map fun i => (((n * 8) / 2 ^ (56 - 8 * i) % 256 : Nat) : Int)
def padS (bs : List Int) : List Int := bs ++ [128] ++ List.replicate (zpad bs.length) 0 ++ bits8 bs.length
theorem padS_length (bs : List Int) : (padS bs).length = bs.length + 1 + zpad bs.length + 8 := by simp [padS, bits8]; omega
theorem padS_mod (bs : List Int) : (padS bs).length % 64 = 0 := by rw [padS_length]; unfold zpad; omega
/-- bytes are a number, the lowest first -/
def hsum (f : Nat → Nat) : Nat → Nat
  | 0 => 0
  | n + 1 => hsum f n + 2 ^ (8 * n) * f n
def hashByte (s : Nat → B32) (i : Nat) : Nat := ((s (i / 4)).toNat / 2 ^ (24 - 8 * (i % 4))) % 256
/-- the hash, as a number whose lowest byte is the first one -/
def stHash (s : Nat → B32) : Nat := hsum (hashByte s) 32
def shaS (bs : List Int) : Nat := stHash (blocksS (padS bs) ((padS bs).length / 64))
end Go.Proofs.YtbjbjgfjaopibaaGreatDoor
end

section
/- Words of 32 bits as Go's values. No program in sight. -/
namespace Go.Proofs.YtbjbjgfjaopibaaGreatDoor
open Go
set_option linter.unusedVariables false

def iv (x : B32) : Int := (x.toNat : Int)
theorem iv_nonneg (x : B32) : 0 ≤ iv x := Int.natCast_nonneg _
theorem iv_lt (x : B32) : iv x < 4294967296 := by have := x.isLt; unfold iv; omega
theorem iv_add (a b : B32) : IntKind.u32.wrap (iv a + iv b) = iv (a + b) := by
  rw [IntKind.wrap_u32]; unfold iv; rw [BitVec.toNat_add]; omega
theorem iv_wrap (a : B32) : IntKind.u32.wrap (iv a) = iv a := by
  rw [IntKind.wrap_u32]; have := iv_nonneg a; have := iv_lt a; omega
theorem ofInt_iv (a : B32) : BitVec.ofInt 32 (iv a) = a := by unfold iv; rw [BitVec.ofInt_natCast, BitVec.ofNat_toNat]; simp
theorem iv_xor (a b : B32) : bits .xor .u32 (iv a) (iv b) = iv (a ^^^ b) := by
  show IntKind.u32.wrap ((BitVec.ofInt 32 (iv a) ^^^ BitVec.ofInt 32 (iv b)).toNat : Int) = _
  rw [ofInt_iv, ofInt_iv]; exact iv_wrap (a ^^^ b)
theorem iv_and (a b : B32) : bits .and .u32 (iv a) (iv b) = iv (a &&& b) := by
  show IntKind.u32.wrap ((BitVec.ofInt 32 (iv a) &&& BitVec.ofInt 32 (iv b)).toNat : Int) = _
  rw [ofInt_iv, ofInt_iv]; exact iv_wrap (a &&& b)
theorem iv_or (a b : B32) : bits .or .u32 (iv a) (iv b) = iv (a ||| b) := by
  show IntKind.u32.wrap ((BitVec.ofInt 32 (iv a) ||| BitVec.ofInt 32 (iv b)).toNat : Int) = _
  rw [ofInt_iv, ofInt_iv]; exact iv_wrap (a ||| b)
theorem iv_shr (a : B32) (n : Nat) : iv a / 2 ^ n = iv (a >>> n) := by
  unfold iv
  rw [BitVec.toNat_ushiftRight, Nat.shiftRight_eq_div_pow]
  simp
theorem iv_shl (a : B32) (n : Nat) : IntKind.u32.wrap (iv a * 2 ^ n) = iv (a <<< n) := by
  rw [IntKind.wrap_u32]; unfold iv
  rw [BitVec.toNat_shiftLeft, Nat.shiftLeft_eq]
  simp
theorem ror_or (x : B32) (n : Nat) (h : n < 32) : (x <<< (32 - n)) ||| (x >>> n) = ror x n := by
  unfold ror BitVec.rotateRight BitVec.rotateRightAux
  rw [Nat.mod_eq_of_lt h, BitVec.or_comm]
end Go.Proofs.YtbjbjgfjaopibaaGreatDoor
end

section
/- SHA-256, the program's: RotateLeft32, xor3. -/
namespace Go.Proofs.YtbjbjgfjaopibaaGreatDoor
open Go Go.RowKit
set_option linter.unusedSimpArgs false
set_option linter.unusedVariables false
set_option maxRecDepth 100000

theorem shl32 (x : B32) (s : Nat) (h : s ≤ 32) : Op.shift .shl .u32 (iv x) .u64 (s : Int) = pure (.int .u32 (iv (x <<< s))) := by
  rw [shift_shl .u32 .u64 (iv x) (s : Int) (by omega) (by show (s : Int) ≤ 32; omega), Int.toNat_natCast, iv_shl]
theorem shr32 (x : B32) (s : Nat) (h : s ≤ 32) : Op.shift .shr .u32 (iv x) .u64 (s : Int) = pure (.int .u32 (iv (x >>> s))) := by
  rw [shift_shr .u32 .u64 (iv x) (s : Int) (by omega) (by show (s : Int) ≤ 32; omega), Int.toNat_natCast, iv_shr]
theorem rot_mask (n s : Nat) (h0 : 0 < n) (hs : n + s = 32) : bits .and .u64 (IntKind.u64.wrap (-(n : Int))) 31 = (s : Int) := by
  have hw : IntKind.u64.wrap (-(n : Int)) = 18446744073709551616 - n := by
    simp [IntKind.wrap, IntKind.bits, IntKind.signed]; omega
  rw [hw]
  have := bits_mask .u64 64 (by decide) (fun m h0 h1 => by simp [IntKind.wrap, IntKind.bits, IntKind.signed]; omega) 5 (by decide) (18446744073709551616 - (n : Int)) (by omega) (by omega)
  rw [show (2 : Int) ^ 5 - 1 = 31 from rfl] at this
  rw [this]; omega
theorem rotl (x : B32) (n : Nat) (h0 : 0 < n) (h1 : n < 32) (w : World) :
    Calls Tryz.prog 119 #[.int .u32 (iv x), .int .i64 (-(n : Int))] w fun e w' => e = .returned (.int .u32 (iv (ror x n))) ∧ w = w' := by
  obtain ⟨s, hs⟩ : ∃ s, n + s = 32 := ⟨32 - n, by omega⟩
  have hm := rot_mask n s h0 hs
  have hd : IntKind.u64.wrap (32 - (s : Int)) = (n : Int) := by simp [IntKind.wrap, IntKind.bits, IntKind.signed]; omega
  have e1 := shl32 x s (by omega)
  have e2 := shr32 x n (by omega)
  have OR := iv_or
  have HE := Lib.hid (show (x <<< s) ||| (x >>> n) = ror x n from by rw [← ror_or x n h1, show 32 - n = s from by omega])
  clear h0 h1 hs
  go_enter Tryz.func119, Tryz.ntmps119
  go_wp2
  go_ret
  exact ⟨by rw [← HE.out]; rfl, rfl⟩
theorem xor3 (x c : B32) (a b : Nat) (ha : 0 < a) (ha1 : a < 32) (hb : 0 < b) (hb1 : b < 32) (w : World) :
    Calls Tryz.prog 118 #[.int .u32 (iv x), .int .i64 (a : Int), .int .i64 (b : Int), .int .u32 (iv c)] w fun e w' => e = .returned (.int .u32 (iv (ror x a ^^^ ror x b ^^^ c))) ∧ w = w' := by
  have XOR := iv_xor
  have R1 := Lib.hid (rotl x a ha ha1 w)
  have R2 := Lib.hid (rotl x b hb hb1 w)
  have hna : IntKind.i64.wrap (-(a : Int)) = -(a : Int) := by rw [IntKind.wrap_i64]; omega
  have hnb : IntKind.i64.wrap (-(b : Int)) = -(b : Int) := by rw [IntKind.wrap_i64]; omega
  go_enter Tryz.func118, Tryz.ntmps118
  go_wp2_with fail
  refine R1.out.mono ?_
  rintro e w1 ⟨rfl, rfl⟩
  go_wp2_with fail
  refine R2.out.mono ?_
  rintro e w1 ⟨rfl, rfl⟩
  go_wp2
  go_ret
  exact ⟨rfl, rfl⟩
end Go.Proofs.YtbjbjgfjaopibaaGreatDoor
end

section
/- SHA-256, the program's: the Hasher in memory; block. -/
namespace Go.Proofs.YtbjbjgfjaopibaaGreatDoor
open Go Go.RowKit
set_option linter.unusedSimpArgs false
set_option linter.unusedVariables false
set_option maxRecDepth 100000

theorem two_new (w : World) (c1 c2 : Array Value) (t1 t2 : TypeId) : Blk ((w.alloc (.cells c1 t1)).alloc (.cells c2 t2)) w.heap.size c1 t1 ∧ Blk ((w.alloc (.cells c1 t1)).alloc (.cells c2 t2)) (w.heap.size + 1) c2 t2 ∧ Below w.heap.size w ((w.alloc (.cells c1 t1)).alloc (.cells c2 t2)) := by
  have b1 := Blk.new w c1 t1
  have k := (Below.refl (w.alloc (.cells c1 t1)).heap.size (w.alloc (.cells c1 t1))).alloc (Nat.le_refl _) (.cells c2 t2)
  have hs : (w.alloc (.cells c1 t1)).heap.size = w.heap.size + 1 := by simp
  refine ⟨b1.beyond k, ?_, ((Below.refl w.heap.size w).alloc (Nat.le_refl _) _).alloc (by rw [hs]; omega) _⟩
  have := Blk.new (w.alloc (.cells c1 t1)) c2 t2
  rw [hs] at this; exact this
def u8c (x : Nat → Int) (n : Nat) : List Value := (List.range n).map fun j => .int .u8 (x j)
def u32c (x : Nat → B32) (n : Nat) : List Value := (List.range n).map fun j => .int .u32 (iv (x j))
theorem u8c_length (x : Nat → Int) (n : Nat) : (u8c x n).length = n := by simp [u8c]
theorem u32c_length (x : Nat → B32) (n : Nat) : (u32c x n).length = n := by simp [u32c]
theorem u8c_get (x : Nat → Int) (n j : Nat) (h : j < n) : (u8c x n)[j]? = some (.int .u8 (x j)) := by simp [u8c, h]
theorem u32c_get (x : Nat → B32) (n j : Nat) (h : j < n) : (u32c x n)[j]? = some (.int .u32 (iv (x j))) := by simp [u32c, h]
theorem u32c_one (x : Nat → B32) (n : Nat) : ∀ u ∈ u32c x n, u.oneCell' = true := by intro u hu; obtain ⟨j, _, rfl⟩ := List.mem_map.1 hu; rfl
theorem u8c_one (x : Nat → Int) (n : Nat) : ∀ u ∈ u8c x n, u.oneCell' = true := by intro u hu; obtain ⟨j, _, rfl⟩ := List.mem_map.1 hu; rfl
/-- the cells of a Hasher that New made -/
def hcl (σ : Nat → B32) (P : Nat → Int) (n : Nat) : List Value := .bool true :: (u32c σ 8 ++ (u8c P 64 ++ [.int .u64 (n : Int)]))
theorem hcl_length (σ : Nat → B32) (P : Nat → Int) (n : Nat) : (hcl σ P n).length = 74 := by simp [hcl, u8c, u32c]
theorem hcl_w (σ : Nat → B32) (P : Nat → Int) (n j : Nat) (h : j < 8) : (hcl σ P n)[1 + j]? = some (.int .u32 (iv (σ j))) := by
  unfold hcl
  rw [Nat.add_comm 1 j, List.getElem?_cons_succ, List.getElem?_append_left (by rw [u32c_length]; exact h), u32c_get _ _ _ h]
theorem hcl_p (σ : Nat → B32) (P : Nat → Int) (n j : Nat) (h : j < 64) : (hcl σ P n)[9 + j]? = some (.int .u8 (P j)) := by
  unfold hcl
  rw [show 9 + j = (8 + j) + 1 from by omega, List.getElem?_cons_succ, List.getElem?_append_right (by rw [u32c_length]; omega), u32c_length, List.getElem?_append_left (by rw [u8c_length]; omega), show 8 + j - 8 = j from by omega, u8c_get _ _ _ h]
theorem hcl_n (σ : Nat → B32) (P : Nat → Int) (n : Nat) : (hcl σ P n)[73]? = some (.int .u64 (n : Int)) := by
  unfold hcl
  rw [List.getElem?_cons_succ, List.getElem?_append_right (by rw [u32c_length]; omega), u32c_length, List.getElem?_append_right (by rw [u8c_length]; omega), u8c_length]; rfl
theorem hcl_ext {σ τ : Nat → B32} {P Q : Nat → Int} {n m : Nat} (h1 : ∀ j, j < 8 → σ j = τ j) (h2 : ∀ j, j < 64 → P j = Q j) (h3 : n = m) : hcl σ P n = hcl τ Q m := by
  unfold hcl u32c u8c
  subst h3
  congr 2
  · exact List.map_congr_left fun j hj => by rw [h1 j (List.mem_range.1 hj)]
  · congr 1
    exact List.map_congr_left fun j hj => by rw [h2 j (List.mem_range.1 hj)]
theorem hcl_setw (σ : Nat → B32) (P : Nat → Int) (n i : Nat) (v : B32) (h : i < 8) : (hcl σ P n).toArray.setIfInBounds (1 + i) (.int .u32 (iv v)) = (hcl (fun k => if k = i then v else σ k) P n).toArray := by
  rw [List.setIfInBounds_toArray]
  congr 1
  apply List.ext_getElem?
  intro j
  rw [List.getElem?_set]
  by_cases hj : 1 + i = j
  · subst hj
    rw [if_pos rfl, if_pos (by rw [hcl_length]; omega), hcl_w _ _ _ _ h, if_pos rfl]
  · rw [if_neg hj]
    by_cases h0 : j < 1 + 8 ∧ 1 ≤ j
    · obtain ⟨t, rfl⟩ : ∃ t, j = 1 + t := ⟨j - 1, by omega⟩
      rw [hcl_w _ _ _ _ (by omega), hcl_w _ _ _ _ (by omega), if_neg (by omega)]
    · by_cases h1 : j = 0
      · subst h1; rfl
      · by_cases h2 : j < 73
        · obtain ⟨t, rfl⟩ : ∃ t, j = 9 + t := ⟨j - 9, by omega⟩
          rw [hcl_p _ _ _ _ (by omega), hcl_p _ _ _ _ (by omega)]
        · by_cases h3 : j = 73
          · subst h3; rw [hcl_n, hcl_n]
          · rw [List.getElem?_eq_none (by rw [hcl_length]; omega), List.getElem?_eq_none (by rw [hcl_length]; omega)]
/-- the words of a block, so many of them -/
def wcl (m : Nat → B32) (k : Nat) : List Value := u32c (fun i => if i < k then shw m i else 0) 64
theorem wcl_get (m : Nat → B32) (k j : Nat) (h : j < k) (hk : k ≤ 64) : (wcl m k)[j]? = some (.int .u32 (iv (shw m j))) := by
  unfold wcl; rw [u32c_get _ _ _ (by omega), if_pos h]
theorem wcl_set (m : Nat → B32) (k : Nat) (hk : k < 64) : (wcl m k).toArray.setIfInBounds k (.int .u32 (iv (shw m k))) = (wcl m (k + 1)).toArray := by
  rw [List.setIfInBounds_toArray]
  congr 1
  apply List.ext_getElem?
  intro j
  rw [List.getElem?_set]
  unfold wcl
  by_cases hj : k = j
  · subst hj
    rw [if_pos rfl, if_pos (by rw [u32c_length]; omega), u32c_get _ _ _ hk, if_pos (by omega)]
  · rw [if_neg hj]
    by_cases h : j < 64
    · rw [u32c_get _ _ _ h, u32c_get _ _ _ h]
      by_cases h2 : j < k
      · rw [if_pos h2, if_pos (by omega)]
      · rw [if_neg h2, if_neg (by omega)]
    · rw [List.getElem?_eq_none (by rw [u32c_length]; omega), List.getElem?_eq_none (by rw [u32c_length]; omega)]
/-- the 16 words of 64 bytes -/
def msgX (x : Nat → Int) (i : Nat) : B32 := be4 (x (4 * i)) (x (4 * i + 1)) (x (4 * i + 2)) (x (4 * i + 3))
end Go.Proofs.YtbjbjgfjaopibaaGreatDoor
end

section
/- SHA-256: turning right, one by one; words out of bytes. No program in sight. -/
namespace Go.Proofs.YtbjbjgfjaopibaaGreatDoor
open Go
set_option linter.unusedVariables false

theorem ror_zero (x : B32) : ror x 0 = x := by
  unfold ror
  apply BitVec.eq_of_getLsbD_eq
  intro i hi
  rw [BitVec.getLsbD_rotateRight]
  simp [hi]
theorem ror_succ (x : B32) (k : Nat) (h : k + 1 < 32) : ror (ror x k) 1 = ror x (k + 1) := by
  unfold ror
  apply BitVec.eq_of_getLsbD_eq
  intro i hi
  simp only [BitVec.getLsbD_rotateRight, Bool.cond_decide]
  rw [show 1 % 32 = 1 from rfl, Nat.mod_eq_of_lt (by omega : k < 32), Nat.mod_eq_of_lt h]
  by_cases h1 : i < 32 - 1
  · rw [if_pos h1]
    by_cases h2 : 1 + i < 32 - k
    · rw [if_pos h2, if_pos (by omega)]; congr 1; omega
    · rw [if_neg h2]
      by_cases h3 : i < 32 - (k + 1)
      · omega
      · rw [if_neg h3]
        simp only [show decide (1 + i < 32) = true from decide_eq_true (by omega), show decide (i < 32) = true from decide_eq_true hi, Bool.true_and]
        congr 1; omega
  · rw [if_neg h1]
    obtain rfl : i = 31 := by omega
    by_cases h3 : 31 < 32 - (k + 1)
    · omega
    · rw [if_neg h3]
      simp only [Nat.reduceSub, Nat.reduceLT, decide_true, Bool.true_and]
      by_cases h2 : (0 : Nat) < 32 - k
      · rw [if_pos h2]; congr 1; omega
      · omega
theorem iv_be4 (x0 x1 x2 x3 : Int) (h0 : 0 ≤ x0 ∧ x0 ≤ 255) (h1 : 0 ≤ x1 ∧ x1 ≤ 255) (h2 : 0 ≤ x2 ∧ x2 ≤ 255) (h3 : 0 ≤ x3 ∧ x3 ≤ 255) : iv (be4 x0 x1 x2 x3) = ((x0 * 256 + x1) * 256 + x2) * 256 + x3 := by
  unfold iv be4
  rw [BitVec.toNat_ofInt]
  omega
theorem wraps_u32 (n : Int) (h₀ : 0 ≤ n) (h₁ : n < 2 ^ 32) : IntKind.u32.wrap n = n := by rw [IntKind.wrap_u32]; omega
theorem or_be4 (x0 x1 x2 x3 : Int) (h0 : 0 ≤ x0 ∧ x0 ≤ 255) (h1 : 0 ≤ x1 ∧ x1 ≤ 255) (h2 : 0 ≤ x2 ∧ x2 ≤ 255) (h3 : 0 ≤ x3 ∧ x3 ≤ 255) :
    bits .or .u32 (bits .or .u32 (bits .or .u32 (x0 * 16777216) (x1 * 65536)) (x2 * 256)) x3 = iv (be4 x0 x1 x2 x3) := by
  have J := bits_join .u32 32 (by decide) wraps_u32
  rw [J 24 (x0 * 16777216) (x1 * 65536) (by omega) (by omega) (by omega) (by omega) (by omega) (by omega)]
  rw [J 16 (x0 * 16777216 + x1 * 65536) (x2 * 256) (by omega) (by omega) (by omega) (by omega) (by omega) (by omega)]
  rw [J 8 (x0 * 16777216 + x1 * 65536 + x2 * 256) x3 (by omega) (by omega) (by omega) (by omega) (by omega) (by omega)]
  rw [iv_be4 x0 x1 x2 x3 h0 h1 h2 h3]
  omega
end Go.Proofs.YtbjbjgfjaopibaaGreatDoor
end
