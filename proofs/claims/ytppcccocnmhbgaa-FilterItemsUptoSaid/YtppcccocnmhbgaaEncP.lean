/- size.Encode, walked. -/
import Derived.Test.YtppcccocnmhbgaaEnc
import Derived.Test.YtppcccocnmhbgaaBuild0
namespace Go.Proofs.Ytppcccocnmhbgaa
open Go Go.RowKit
set_option linter.unusedSimpArgs false
set_option linter.unusedVariables false
set_option maxRecDepth 100000

/-- the nine bytes, j of the number's laid -/
def nineL (n j : Nat) : List Value := .int .u8 255 :: (u8s (leB n j) ++ List.replicate (8 - j) (.int .u8 0))
theorem nineL_len {n j : Nat} (h : j ≤ 8) : (nineL n j).length = 9 := by
  unfold nineL; rw [List.length_cons, List.length_append, u8s_length, leB_length, List.length_replicate]; omega
theorem nineL_set {n j : Nat} (h : j < 8) : (nineL n j).set (j + 1) (.int .u8 ((n / 2 ^ (8 * j) % 256 : Nat) : Int)) = nineL n (j + 1) := by
  have e : 8 - j = (8 - (j + 1)) + 1 := by omega
  unfold nineL
  rw [List.set_cons_succ, List.set_append, u8s_length, leB_length, if_neg (Nat.lt_irrefl j), Nat.sub_self, e, List.replicate_succ, List.set_cons_zero, ← leB_succ, u8s_append, List.append_assoc]
  rfl
theorem nineL_8 (n : Nat) : nineL n 8 = .int .u8 255 :: u8s (leB n 8) := by simp [nineL]
theorem leB_getD {n k i : Nat} (h : i < k) : (leB n k).getD i 0 = ((n / 2 ^ (8 * i) % 256 : Nat) : Int) := by simp [leB, List.getD, h]
theorem row_empty (w : World) (b : Nat) (h : Blk w b #[] 5) : Row w 5 (.slice (some ⟨b, 0, none⟩) 0 0) [] (some b) :=
  .inr ⟨b, 0, #[], rfl, rfl, h, Nat.le_refl _, Nat.le_refl _, (by decide), rfl⟩
/-- the bytes laid in a row of their own -/
theorem nine_row (n wid : Nat) (byt : Int) (g c : Nat) (w : World) (h8 : wid ≤ 8) (hb : Blk w g (.int .u8 byt :: u8s (leB n 8)).toArray 107) :
    ∃ p2 c2 w2 o2, (Builtin.append_ #[26, 26] 26 #[.slice (some ⟨w.heap.size, 0, none⟩) 0 0, .slice (some ⟨g, 0, none⟩) (wid + 1) c]).run Try.prog (w.alloc (.cells #[] 5)) = .ok (.slice p2 (wid + 1) c2) w2 ∧
      Row w2 5 (.slice p2 (wid + 1) c2) (byt :: leB n wid) o2 ∧ (∀ g, o2 = some g → w.heap.size ≤ g) ∧ Below w.heap.size w w2 := by
  obtain ⟨i0, hi, hz0, hz1, hz2⟩ := info_parts u8inf
  have ka := (Below.refl w.heap.size w).alloc (Nat.le_refl _) (.cells #[] 5)
  have hlen : (byt :: leB n wid).length = wid + 1 := by rw [List.length_cons, leB_length]
  obtain ⟨v2, w2, o2, run2, R2, ho2, k2⟩ := row_appendL (P := Try.prog) 26 26 i0 (.int .u8 0) Try.underlying26 hi hz0 hz1 hz2 rfl (row_empty (w.alloc (.cells #[] 5)) w.heap.size (Blk.new _ _ _)) (p := some ⟨g, 0, none⟩) (c := c) (ys := byt :: leB n wid) (Lib.BytesIn.of_cells fun i hi => by
    rw [hlen] at hi
    rw [Addr.add_lit, Nat.zero_add, (hb.beyond ka).cell]
    match i, hi with
    | 0, _ => rfl
    | j + 1, hj =>
      have e : (byt :: leB n wid).getD (j + 1) 0 = (leB n wid).getD j 0 := rfl
      rw [e, leB_getD (by omega)]
      simp [u8s, leB, show j < 8 from by omega]) (by rw [hlen]; simp; omega)
  have hst := own_step rfl ka (fun g hg => by cases hg; exact Nat.le_refl _) ho2 k2
  rw [hlen] at run2
  obtain ⟨p2, c2, rfl, _⟩ := R2.form
  rw [List.nil_append, hlen] at run2 R2
  exact ⟨p2, c2, w2, o2, run2, R2, hst⟩
set_option maxHeartbeats 1600000 in
theorem penc (n : Nat) (hn : n < 18446744073709551616) (w : World) : Calls Try.prog 36 #[.int .u64 (n : Int)] w fun e w' => ∃ p c o, e = .returned (.slice p (encS n).length c) ∧ Row w' 5 (.slice p (encS n).length c) (encS n) o ∧ (∀ g, o = some g → w.heap.size ≤ g) ∧ Below w.heap.size w w' := by
  by_cases h1 : n < 253
  · rw [encS_1 h1]
    refine (enc_small n h1 w).mono ?_
    rintro e w' ⟨rfl, rfl⟩
    exact ⟨_, _, some w.heap.size, rfl, .inr ⟨w.heap.size, 1, #[.int .u8 (n : Int)], rfl, rfl, Blk.new _ _ _, Nat.le_refl _, Nat.le_refl _, (by decide), rfl⟩, fun g hg => (by cases hg; exact Nat.le_refl _), (Below.refl _ _).alloc (Nat.le_refl _) _⟩
  · obtain ⟨i0, hi, hz0, hz1, hz2⟩ := info_parts u8inf
    have d1 : decide ((n : Int) < 253) = false := decide_eq_false (by omega)
    go_enter Try.func36, Try.ntmps36
    go_upto_region 4 with fail
    have b0 : Blk (w.alloc (.cells #[.int .u8 255, .int .u8 0, .int .u8 0, .int .u8 0, .int .u8 0, .int .u8 0, .int .u8 0, .int .u8 0, .int .u8 0] 107)) w.heap.size (nineL n 0).toArray 107 := Blk.new w _ _
    have k0 := (Below.refl w.heap.size w).alloc (Nat.le_refl _) (.cells #[.int .u8 255, .int .u8 0, .int .u8 0, .int .u8 0, .int .u8 0, .int .u8 0, .int .u8 0, .int .u8 0, .int .u8 0] 107)
    have H0 := Lib.hid (And.intro b0 k0)
    clear b0 k0 hi hz0 hz1 hz2
    generalize w.alloc (.cells #[.int .u8 255, .int .u8 0, .int .u8 0, .int .u8 0, .int .u8 0, .int .u8 0, .int .u8 0, .int .u8 0, .int .u8 0] 107) = W at *
    generalize hgw : w.heap.size = G at *
    go_wp2
    go_loopg [11] 8 (fun gh i wx => ∃ j : Nat, j ≤ 8 ∧ i = .int .i64 (j : Int) ∧ gh = 8 - j ∧ Hid (Blk wx G (nineL n j).toArray 107 ∧ Below G w wx))
    case atStart => exact ⟨0, Nat.zero_le _, rfl, rfl, H0.out⟩
    case round =>
      obtain ⟨j, hj, rfl, hg, HM⟩ := hrel
      have HG := Lib.hid hg
      clear hg
      by_cases hlt : j < 8
      · have a2 : IntKind.i64.wrap (8 * (j : Int)) = 8 * (j : Int) := by rw [IntKind.wrap_i64]; omega
        have dj : decide ((j : Int) < 8) = true := decide_eq_true (by omega)
        have c := HM.out.1.cell (j + 1)
        rw [List.getElem?_toArray, List.getElem?_eq_getElem (by rw [nineL_len hj]; omega)] at c
        have f := HM.out.1.free (j + 1)
        have hsz : (nineL n j).toArray.size = 9 := by rw [List.size_toArray, nineL_len hj]
        go_wp2
        go_roundg (8 - (j + 1))
        case measure => rw [HG.out]; omega
        case rel =>
          refine ⟨j + 1, hlt, rfl, rfl, ?_, HM.out.2.setCell (by rw [← hgw]; exact Nat.le_refl _) _⟩
          have e := HM.out.1.set (j + 1) (.int .u8 ((n / 2 ^ (8 * j) % 256 : Nat) : Int))
          rw [List.setIfInBounds_toArray, nineL_set hlt] at e
          rw [show ((n : Int) / 2 ^ (8 * j) % 256) = ((n / 2 ^ (8 * j) % 256 : Nat) : Int) from by simp]
          exact e
      · obtain rfl : j = 8 := by omega
        have b8 := HM.out.1
        rw [nineL_8] at b8
        have f8 := b8.free 0
        have c8 : wr.cell? ⟨G, 0, none⟩ = some (.int .u8 255) := by rw [b8.cell]; rfl
        have hGr : G ≤ wr.heap.size := by rw [← hgw]; exact HM.out.2.size
        by_cases h2 : n ≤ 65535
        · have d2 : decide ((n : Int) < 65536) = true := decide_eq_true (by omega)
          have b9 := b8.set 0 (.int .u8 253)
          rw [List.setIfInBounds_toArray] at b9
          have k9 := HM.out.2.setCell (p := ⟨G, 0, none⟩) (by rw [← hgw]; exact Nat.le_refl _) (.int .u8 253)
          have H9 := Lib.hid (And.intro b9 k9)
          have hGW : G ≤ (wr.setCell ⟨G, 0, none⟩ (.int .u8 253)).heap.size := by simp; exact hGr
          clear b8 b9 k9
          go_upto_region 11 with fail
          generalize wr.setCell ⟨G, 0, none⟩ (.int .u8 253) = W9 at *
          clear c8 f8
          obtain ⟨p2, c2, w2, o2, run2, R2, ho2, hb2⟩ := nine_row n 2 253 G 9 W9 (by decide) H9.out.1
          have HR2 := Lib.hid (And.intro R2 (And.intro (fun g hg => Nat.le_trans hGW (ho2 g hg)) (H9.out.2.trans (hb2.mono hGW))))
          clear R2 ho2 hb2
          change (Builtin.append_ #[26, 26] 26 #[.slice (some ⟨W9.heap.size, 0, none⟩) 0 0, .slice (some ⟨G, 0, none⟩) 3 9]).run Try.prog (W9.alloc (.cells #[] 5)) = .ok (.slice p2 3 c2) w2 at run2
          go_wp2_with (at_builtin; refine wpl_append rfl _ _ 26 rfl rfl rfl run2 ?_)
          go_ret
          obtain ⟨q1, q2, q3⟩ := HR2.out
          have hl : (253 :: leB n 2).length = 3 := by rw [List.length_cons, leB_length]
          rw [encS_3 h1 h2, hl]
          refine ⟨p2, c2, o2, rfl, q1, ?_, ?_⟩
          · rw [hgw]; exact q2
          · rw [hgw]; exact q3
        · have d2 : decide ((n : Int) < 65536) = false := decide_eq_false (by omega)
          by_cases h3 : n ≤ 4294967295
          · have d3 : decide ((n : Int) < 4294967296) = true := decide_eq_true (by omega)
            have b9 := b8.set 0 (.int .u8 254)
            rw [List.setIfInBounds_toArray] at b9
            have k9 := HM.out.2.setCell (p := ⟨G, 0, none⟩) (by rw [← hgw]; exact Nat.le_refl _) (.int .u8 254)
            have H9 := Lib.hid (And.intro b9 k9)
            have hGW : G ≤ (wr.setCell ⟨G, 0, none⟩ (.int .u8 254)).heap.size := by simp; exact hGr
            clear b8 b9 k9
            go_upto_region 14 with fail
            generalize wr.setCell ⟨G, 0, none⟩ (.int .u8 254) = W9 at *
            clear c8 f8
            obtain ⟨p2, c2, w2, o2, run2, R2, ho2, hb2⟩ := nine_row n 4 254 G 9 W9 (by decide) H9.out.1
            have HR2 := Lib.hid (And.intro R2 (And.intro (fun g hg => Nat.le_trans hGW (ho2 g hg)) (H9.out.2.trans (hb2.mono hGW))))
            clear R2 ho2 hb2
            change (Builtin.append_ #[26, 26] 26 #[.slice (some ⟨W9.heap.size, 0, none⟩) 0 0, .slice (some ⟨G, 0, none⟩) 5 9]).run Try.prog (W9.alloc (.cells #[] 5)) = .ok (.slice p2 5 c2) w2 at run2
            go_wp2_with (at_builtin; refine wpl_append rfl _ _ 26 rfl rfl rfl run2 ?_)
            go_ret
            obtain ⟨q1, q2, q3⟩ := HR2.out
            have hl : (254 :: leB n 4).length = 5 := by rw [List.length_cons, leB_length]
            rw [encS_5 h1 h2 h3, hl]
            refine ⟨p2, c2, o2, rfl, q1, ?_, ?_⟩
            · rw [hgw]; exact q2
            · rw [hgw]; exact q3
          · have d3 : decide ((n : Int) < 4294967296) = false := decide_eq_false (by omega)
            have H9 := Lib.hid (And.intro b8 HM.out.2)
            have hGW := hGr
            clear b8
            go_upto_region 15 with fail
            clear c8 f8
            obtain ⟨p2, c2, w2, o2, run2, R2, ho2, hb2⟩ := nine_row n 8 255 G 9 wr (by decide) H9.out.1
            have HR2 := Lib.hid (And.intro R2 (And.intro (fun g hg => Nat.le_trans hGW (ho2 g hg)) (H9.out.2.trans (hb2.mono hGW))))
            clear R2 ho2 hb2
            change (Builtin.append_ #[26, 26] 26 #[.slice (some ⟨wr.heap.size, 0, none⟩) 0 0, .slice (some ⟨G, 0, none⟩) 9 9]).run Try.prog (wr.alloc (.cells #[] 5)) = .ok (.slice p2 9 c2) w2 at run2
            go_wp2_with (at_builtin; refine wpl_append rfl _ _ 26 rfl rfl rfl run2 ?_)
            go_ret
            obtain ⟨q1, q2, q3⟩ := HR2.out
            have hl : (255 :: leB n 8).length = 9 := by rw [List.length_cons, leB_length]
            rw [encS_9 h1 h2 h3, hl]
            refine ⟨p2, c2, o2, rfl, q1, ?_, ?_⟩
            · rw [hgw]; exact q2
            · rw [hgw]; exact q3
end Go.Proofs.Ytppcccocnmhbgaa
