import Derived.Test.YtppcccocnmhbgaaFl4
import Derived.Test.YtppcccocnmhbgaaFl7
import Derived.Test.YtppcccocnmhbgaaFl19
import Derived.Test.YtppcccocnmhbgaaFl9
import Derived.Test.YtppcccocnmhbgaaFl6
import Derived.Test.YtppcccocnmhbgaaFl5
import Derived.Test.YtppcccocnmhbgaaRows
import Derived.Deep.Slices
import Derived.Deep.Strs
import Derived.Test.YtppcccocnmhbgaaFl16
import Derived.Deep.LoopGhost
import Derived.Lib.AppendZeros
section
/- slices.Sort at a row of numbers of its own. -/
namespace Go.Proofs.Ytppcccocnmhbgaa
open Go Go.RowKit Go.Sort Go.Proofs
set_option linter.unusedVariables false
set_option maxRecDepth 100000

/-- two rows in order with the same members are one -/
theorem sorted_unique : ∀ {l m : List Int}, l.Pairwise (· ≤ ·) → m.Pairwise (· ≤ ·) → l.Perm m → l = m
  | [], m, _, _, h => (List.nil_perm.1 h).symm
  | x :: t, [], _, _, h => absurd h.length_eq (by simp)
  | x :: t, y :: u, h1, h2, h => by
    rw [List.pairwise_cons] at h1 h2
    have e : x = y := by
      have hx : x ∈ y :: u := h.subset (by simp)
      have hy : y ∈ x :: t := h.symm.subset (by simp)
      have a1 : y ≤ x := by
        rcases List.mem_cons.1 hx with e | e
        · omega
        · exact h2.1 x e
      have a2 : x ≤ y := by
        rcases List.mem_cons.1 hy with e | e
        · omega
        · exact h1.1 y e
      omega
    subst e
    rw [sorted_unique h1.2 h2.2 (List.Perm.cons_inv h)]
theorem insN_perm (v : Nat) : ∀ l : List Nat, (insN v l).Perm (v :: l)
  | [] => List.Perm.refl _
  | x :: t => by
    unfold insN
    split
    · exact List.Perm.refl _
    · exact ((insN_perm v t).cons x).trans (List.Perm.swap v x t)
theorem sortN_perm (l : List Nat) : (sortN l).Perm l := by
  have key : ∀ (l s : List Nat), (l.foldl (fun s v => insN v s) s).Perm (s ++ l) := by
    intro l
    induction l with
    | nil => intro s; rw [List.append_nil]; exact List.Perm.refl _
    | cons a t ih =>
      intro s
      rw [List.foldl_cons]
      refine (ih _).trans ?_
      refine ((insN_perm a s).append_right t).trans ?_
      exact List.perm_middle.symm
  exact key l []
theorem mergeSort_sortN (l : List Nat) : ((l.map Int.ofNat).mergeSort fun x y => decide (x ≤ y)) = (sortN l).map Int.ofNat := by
  refine sorted_unique ?_ ?_ ?_
  · have h := List.pairwise_mergeSort (le := fun x y : Int => decide (x ≤ y)) (fun a b c h1 h2 => by
      have h1 := of_decide_eq_true h1; have h2 := of_decide_eq_true h2
      exact decide_eq_true (by omega)) (fun a b => by
      rcases Int.le_total a b with h | h
      · simp [h]
      · simp [h]) (l.map Int.ofNat)
    exact h.imp fun {a b} h => of_decide_eq_true h
  · rw [List.pairwise_map]
    exact (sortN_sorted l).imp fun {a b} h => Int.ofNat_le.2 h
  · exact (List.mergeSort_perm _ _).trans ((sortN_perm l).map _).symm
theorem u64s_ofNat (l : List Nat) : (l.map Int.ofNat).map (Value.int .u64) = u64s l := by simp [u64s]
/-- what the sort leaves of the memory -/
theorem keep_sorted {α : Type} [Inhabited α] (enc : α → Value) (w : World) (n g off : Nat) (d : Array α) (os : Array Obj) : Keep (fun k => k = g) w (grow (putRow enc (Sort.ahead w n) g off d) os) :=
  ⟨rfl, rfl, rfl, by simp [putRow, mapBlock], fun k hk hn => by
    show ((w.heap.modify g _) ++ os)[k]? = _
    rw [Array.getElem?_append_left (by simpa using hk), Array.getElem?_modify, if_neg (fun e => hn e.symm)]⟩
theorem blk_sorted {α : Type} [Inhabited α] (enc : α → Value) {w : World} {g : Nat} {cur : Array Value} {t : TypeId} (h : Blk w g cur t) (n off : Nat) (d : Array α) (os : Array Obj) : Blk (grow (putRow enc (Sort.ahead w n) g off d) os) g (putCells enc off d cur) t := by
  show ((w.heap.modify g _) ++ os)[g]? = _
  have hl := h.lt
  rw [Array.getElem?_append_left (by simpa using hl), Array.getElem?_modify, if_pos rfl]
  have h' : w.heap[g]? = some (.cells cur t (0, 0)) := h
  rw [h']
  rfl
theorem take_putCells (l : List Nat) (cur : Array Value) (h : l.length ≤ cur.size) : (putCells (Value.int .u64) 0 (l.map Int.ofNat).toArray cur).toList.take l.length = u64s l := by
  apply List.ext_getElem?
  intro i
  rw [List.getElem?_take]
  by_cases hi : i < l.length
  · rw [if_pos hi]
    have e : (putCells (Value.int .u64) 0 (l.map Int.ofNat).toArray cur).toList[i]? = some (.int .u64 (l.getD i 0 : Nat)) := by
      rw [Array.getElem?_toList]
      unfold putCells
      rw [Array.getElem?_mapIdx, Array.getElem?_eq_getElem (by omega), Option.map_some, if_pos ⟨Nat.zero_le _, by simpa using hi⟩]
      congr 2
      rw [Nat.sub_zero, getElem!_pos _ i (by simpa using hi)]
      simp [List.getD_eq_getElem?_getD, hi]
    rw [e, u64s_get l i hi]
  · rw [if_neg hi, List.getElem?_eq_none (by rw [u64s_length]; omega)]
set_option maxHeartbeats 1600000 in
theorem sort_nums (w : World) (G : Nat) (v : Value) (l : List Nat) (h : NumsG w G v l) (hG : G ≤ w.heap.size) (hl : l.length < 4611686018427387904) :
    Calls Try.prog 33 #[v] w fun e w' => e = .returned (.tuple #[]) ∧ NumsG w' G v (sortN l) ∧ Below G w w' := by
  rcases h.form with ⟨rfl, rfl⟩ | ⟨g, c, o, rfl, hc, hm, hg, hU⟩
  · refine (sort0 w).mono ?_
    rintro e w' ⟨rfl, rfl⟩
    exact ⟨rfl, NumsG.nil _ _, Below.refl _ _⟩
  · have hog : G ≤ g := by
      obtain ⟨o2, h1, h2⟩ := h
      rcases h1.form with ⟨p, c2, e, _, _, ⟨hp, _⟩ | ⟨g2, e2, e3, _⟩⟩
      · rw [hp] at e; cases e
      · rw [e3] at e; cases e
        exact h2 _ e2
    have hcell : ∀ j, j < l.length → w.cell? ⟨g, j, none⟩ = some (.int .u64 (l.getD j 0 : Nat)) := fun j hj => hU.cell j hj
    obtain ⟨hcs, ⟨e, _⟩ | ⟨g2, cap, cur, ho, e, hb, h1, h2, h3, h4⟩⟩ := hU
    · cases e
    · cases e
      have hH : Holds (Value.int .u64) w g 0 (l.map Int.ofNat).toArray := fun j hj => by
        have hj' : j < l.length := by simpa using hj
        refine ⟨?_, hb.free _⟩
        rw [Nat.zero_add, hcell j hj', getElem!_pos _ j hj]
        simp [List.getD_eq_getElem?_getD, hj']
      have P := sort_u64 g 0 c (l.map Int.ofNat) w hH hg (by simpa using hl)
      rw [List.length_map] at P
      refine P.mono ?_
      rintro e w' ⟨rfl, n, os, rfl⟩
      rw [mergeSort_sortN]
      have hsl := sortN_length l
      refine ⟨rfl, ⟨some g, ?_, fun g hg => by cases hg; exact hog⟩, (keep_sorted (Value.int .u64) w n g 0 _ os).below hG (fun k e => by rw [e]; exact hog)⟩
      refine ⟨by rw [u64s_length, Nat.mul_one], .inr ⟨g, c, putCells (Value.int .u64) 0 ((sortN l).map Int.ofNat).toArray cur, rfl, by rw [hsl], blk_sorted (Value.int .u64) hb n 0 _ os, by rw [hsl]; exact h1, ?_, h3, ?_⟩⟩
      · simpa [putCells] using h2
      · rw [Nat.mul_one]; exact take_putCells (sortN l) cur (by rw [hsl]; omega)
end Go.Proofs.Ytppcccocnmhbgaa
end

section
/- size.Encode, walked. -/
namespace Go.Proofs.Ytppcccocnmhbgaa
open Go Go.RowKit
set_option linter.unusedSimpArgs false
set_option linter.unusedVariables false
set_option maxRecDepth 100000

/-- the nine bytes, j of the number's laid -/
def nineL (n j : Nat) : List Value := .int .u8 255 :: (u8s (leB n j) ++ List.replicate (8 - j) (.int .u8 0))
theorem nineL_len {n j : Nat} (h : j ≤ 8) : (nineL n j).length = 9 := by
  unfold nineL; rw [List.length_cons, List.length_append, u8s_length, leB_length, List.length_replicate]; omega
theorem nineL_set {n j : Nat} (h : j < 8) : (nineL n j).set (j + 1) (.int .u8 ((n / 2 ^ (8 * j) % 256 : Nat) : Int)) = nineL n (j + 1) := by
  have e : 8 - j = (8 - (j + 1)) + 1 := by omega
  unfold nineL
  rw [List.set_cons_succ, List.set_append, u8s_length, leB_length, if_neg (Nat.lt_irrefl j), Nat.sub_self, e, List.replicate_succ, List.set_cons_zero, ← leB_succ, u8s_append, List.append_assoc]
  rfl
theorem nineL_8 (n : Nat) : nineL n 8 = .int .u8 255 :: u8s (leB n 8) := by simp [nineL]
theorem leB_getD {n k i : Nat} (h : i < k) : (leB n k).getD i 0 = ((n / 2 ^ (8 * i) % 256 : Nat) : Int) := by simp [leB, List.getD, h]
theorem row_empty (w : World) (b : Nat) (h : Blk w b #[] 5) : Row w 5 (.slice (some ⟨b, 0, none⟩) 0 0) [] (some b) :=
  .inr ⟨b, 0, #[], rfl, rfl, h, Nat.le_refl _, Nat.le_refl _, (by decide), rfl⟩
/-- the bytes laid in a row of their own -/
theorem nine_row (n wid : Nat) (byt : Int) (g c : Nat) (w : World) (h8 : wid ≤ 8) (hb : Blk w g (.int .u8 byt :: u8s (leB n 8)).toArray 107) :
    ∃ p2 c2 w2 o2, (Builtin.append_ #[26, 26] 26 #[.slice (some ⟨w.heap.size, 0, none⟩) 0 0, .slice (some ⟨g, 0, none⟩) (wid + 1) c]).run Try.prog (w.alloc (.cells #[] 5)) = .ok (.slice p2 (wid + 1) c2) w2 ∧
      Row w2 5 (.slice p2 (wid + 1) c2) (byt :: leB n wid) o2 ∧ (∀ g, o2 = some g → w.heap.size ≤ g) ∧ Below w.heap.size w w2 := by
  obtain ⟨i0, hi, hz0, hz1, hz2⟩ := info_parts u8inf
  have ka := (Below.refl w.heap.size w).alloc (Nat.le_refl _) (.cells #[] 5)
  have hlen : (byt :: leB n wid).length = wid + 1 := by rw [List.length_cons, leB_length]
  obtain ⟨v2, w2, o2, run2, R2, ho2, k2⟩ := row_appendL (P := Try.prog) 26 26 i0 (.int .u8 0) Try.underlying26 hi hz0 hz1 hz2 rfl (row_empty (w.alloc (.cells #[] 5)) w.heap.size (Blk.new _ _ _)) (p := some ⟨g, 0, none⟩) (c := c) (ys := byt :: leB n wid) (Lib.BytesIn.of_cells fun i hi => by
    rw [hlen] at hi
    rw [Addr.add_lit, Nat.zero_add, (hb.beyond ka).cell]
    match i, hi with
    | 0, _ => rfl
    | j + 1, hj =>
      have e : (byt :: leB n wid).getD (j + 1) 0 = (leB n wid).getD j 0 := rfl
      rw [e, leB_getD (by omega)]
      simp [u8s, leB, show j < 8 from by omega]) (by rw [hlen]; simp; omega)
  have hst := own_step rfl ka (fun g hg => by cases hg; exact Nat.le_refl _) ho2 k2
  rw [hlen] at run2
  obtain ⟨p2, c2, rfl, _⟩ := R2.form
  rw [List.nil_append, hlen] at run2 R2
  exact ⟨p2, c2, w2, o2, run2, R2, hst⟩
set_option maxHeartbeats 1600000 in
theorem penc (n : Nat) (hn : n < 18446744073709551616) (w : World) : Calls Try.prog 36 #[.int .u64 (n : Int)] w fun e w' => ∃ p c o, e = .returned (.slice p (encS n).length c) ∧ Row w' 5 (.slice p (encS n).length c) (encS n) o ∧ (∀ g, o = some g → w.heap.size ≤ g) ∧ Below w.heap.size w w' := by
  by_cases h1 : n < 253
  · rw [encS_1 h1]
    refine (enc_small n h1 w).mono ?_
    rintro e w' ⟨rfl, rfl⟩
    exact ⟨_, _, some w.heap.size, rfl, .inr ⟨w.heap.size, 1, #[.int .u8 (n : Int)], rfl, rfl, Blk.new _ _ _, Nat.le_refl _, Nat.le_refl _, (by decide), rfl⟩, fun g hg => (by cases hg; exact Nat.le_refl _), (Below.refl _ _).alloc (Nat.le_refl _) _⟩
  · obtain ⟨i0, hi, hz0, hz1, hz2⟩ := info_parts u8inf
    have d1 : decide ((n : Int) < 253) = false := decide_eq_false (by omega)
    go_enter Try.func36, Try.ntmps36
    go_upto_region 4 with fail
    have b0 : Blk (w.alloc (.cells #[.int .u8 255, .int .u8 0, .int .u8 0, .int .u8 0, .int .u8 0, .int .u8 0, .int .u8 0, .int .u8 0, .int .u8 0] 107)) w.heap.size (nineL n 0).toArray 107 := Blk.new w _ _
    have k0 := (Below.refl w.heap.size w).alloc (Nat.le_refl _) (.cells #[.int .u8 255, .int .u8 0, .int .u8 0, .int .u8 0, .int .u8 0, .int .u8 0, .int .u8 0, .int .u8 0, .int .u8 0] 107)
    have H0 := Lib.hid (And.intro b0 k0)
    clear b0 k0 hi hz0 hz1 hz2
    generalize w.alloc (.cells #[.int .u8 255, .int .u8 0, .int .u8 0, .int .u8 0, .int .u8 0, .int .u8 0, .int .u8 0, .int .u8 0, .int .u8 0] 107) = W at *
    generalize hgw : w.heap.size = G at *
    go_wp2
    go_loopg [11] 8 (fun gh i wx => ∃ j : Nat, j ≤ 8 ∧ i = .int .i64 (j : Int) ∧ gh = 8 - j ∧ Hid (Blk wx G (nineL n j).toArray 107 ∧ Below G w wx))
    case atStart => exact ⟨0, Nat.zero_le _, rfl, rfl, H0.out⟩
    case round =>
      obtain ⟨j, hj, rfl, hg, HM⟩ := hrel
      have HG := Lib.hid hg
      clear hg
      by_cases hlt : j < 8
      · have a2 : IntKind.i64.wrap (8 * (j : Int)) = 8 * (j : Int) := by rw [IntKind.wrap_i64]; omega
        have dj : decide ((j : Int) < 8) = true := decide_eq_true (by omega)
        have c := HM.out.1.cell (j + 1)
        rw [List.getElem?_toArray, List.getElem?_eq_getElem (by rw [nineL_len hj]; omega)] at c
        have f := HM.out.1.free (j + 1)
        have hsz : (nineL n j).toArray.size = 9 := by rw [List.size_toArray, nineL_len hj]
        go_wp2
        go_roundg (8 - (j + 1))
        case measure => rw [HG.out]; omega
        case rel =>
          refine ⟨j + 1, hlt, rfl, rfl, ?_, HM.out.2.setCell (by rw [← hgw]; exact Nat.le_refl _) _⟩
          have e := HM.out.1.set (j + 1) (.int .u8 ((n / 2 ^ (8 * j) % 256 : Nat) : Int))
          rw [List.setIfInBounds_toArray, nineL_set hlt] at e
          rw [show ((n : Int) / 2 ^ (8 * j) % 256) = ((n / 2 ^ (8 * j) % 256 : Nat) : Int) from by simp]
          exact e
      · obtain rfl : j = 8 := by omega
        have b8 := HM.out.1
        rw [nineL_8] at b8
        have f8 := b8.free 0
        have c8 : wr.cell? ⟨G, 0, none⟩ = some (.int .u8 255) := by rw [b8.cell]; rfl
        have hGr : G ≤ wr.heap.size := by rw [← hgw]; exact HM.out.2.size
        by_cases h2 : n ≤ 65535
        · have d2 : decide ((n : Int) < 65536) = true := decide_eq_true (by omega)
          have b9 := b8.set 0 (.int .u8 253)
          rw [List.setIfInBounds_toArray] at b9
          have k9 := HM.out.2.setCell (p := ⟨G, 0, none⟩) (by rw [← hgw]; exact Nat.le_refl _) (.int .u8 253)
          have H9 := Lib.hid (And.intro b9 k9)
          have hGW : G ≤ (wr.setCell ⟨G, 0, none⟩ (.int .u8 253)).heap.size := by simp; exact hGr
          clear b8 b9 k9
          go_upto_region 11 with fail
          generalize wr.setCell ⟨G, 0, none⟩ (.int .u8 253) = W9 at *
          clear c8 f8
          obtain ⟨p2, c2, w2, o2, run2, R2, ho2, hb2⟩ := nine_row n 2 253 G 9 W9 (by decide) H9.out.1
          have HR2 := Lib.hid (And.intro R2 (And.intro (fun g hg => Nat.le_trans hGW (ho2 g hg)) (H9.out.2.trans (hb2.mono hGW))))
          clear R2 ho2 hb2
          change (Builtin.append_ #[26, 26] 26 #[.slice (some ⟨W9.heap.size, 0, none⟩) 0 0, .slice (some ⟨G, 0, none⟩) 3 9]).run Try.prog (W9.alloc (.cells #[] 5)) = .ok (.slice p2 3 c2) w2 at run2
          go_wp2_with (at_builtin; refine wpl_append rfl _ _ 26 rfl rfl rfl run2 ?_)
          go_ret
          obtain ⟨q1, q2, q3⟩ := HR2.out
          have hl : (253 :: leB n 2).length = 3 := by rw [List.length_cons, leB_length]
          rw [encS_3 h1 h2, hl]
          refine ⟨p2, c2, o2, rfl, q1, ?_, ?_⟩
          · rw [hgw]; exact q2
          · rw [hgw]; exact q3
        · have d2 : decide ((n : Int) < 65536) = false := decide_eq_false (by omega)
          by_cases h3 : n ≤ 4294967295
          · have d3 : decide ((n : Int) < 4294967296) = true := decide_eq_true (by omega)
            have b9 := b8.set 0 (.int .u8 254)
            rw [List.setIfInBounds_toArray] at b9
            have k9 := HM.out.2.setCell (p := ⟨G, 0, none⟩) (by rw [← hgw]; exact Nat.le_refl _) (.int .u8 254)
            have H9 := Lib.hid (And.intro b9 k9)
            have hGW : G ≤ (wr.setCell ⟨G, 0, none⟩ (.int .u8 254)).heap.size := by simp; exact hGr
            clear b8 b9 k9
            go_upto_region 14 with fail
            generalize wr.setCell ⟨G, 0, none⟩ (.int .u8 254) = W9 at *
            clear c8 f8
            obtain ⟨p2, c2, w2, o2, run2, R2, ho2, hb2⟩ := nine_row n 4 254 G 9 W9 (by decide) H9.out.1
            have HR2 := Lib.hid (And.intro R2 (And.intro (fun g hg => Nat.le_trans hGW (ho2 g hg)) (H9.out.2.trans (hb2.mono hGW))))
            clear R2 ho2 hb2
            change (Builtin.append_ #[26, 26] 26 #[.slice (some ⟨W9.heap.size, 0, none⟩) 0 0, .slice (some ⟨G, 0, none⟩) 5 9]).run Try.prog (W9.alloc (.cells #[] 5)) = .ok (.slice p2 5 c2) w2 at run2
            go_wp2_with (at_builtin; refine wpl_append rfl _ _ 26 rfl rfl rfl run2 ?_)
            go_ret
            obtain ⟨q1, q2, q3⟩ := HR2.out
            have hl : (254 :: leB n 4).length = 5 := by rw [List.length_cons, leB_length]
            rw [encS_5 h1 h2 h3, hl]
            refine ⟨p2, c2, o2, rfl, q1, ?_, ?_⟩
            · rw [hgw]; exact q2
            · rw [hgw]; exact q3
          · have d3 : decide ((n : Int) < 4294967296) = false := decide_eq_false (by omega)
            have H9 := Lib.hid (And.intro b8 HM.out.2)
            have hGW := hGr
            clear b8
            go_upto_region 15 with fail
            clear c8 f8
            obtain ⟨p2, c2, w2, o2, run2, R2, ho2, hb2⟩ := nine_row n 8 255 G 9 wr (by decide) H9.out.1
            have HR2 := Lib.hid (And.intro R2 (And.intro (fun g hg => Nat.le_trans hGW (ho2 g hg)) (H9.out.2.trans (hb2.mono hGW))))
            clear R2 ho2 hb2
            change (Builtin.append_ #[26, 26] 26 #[.slice (some ⟨wr.heap.size, 0, none⟩) 0 0, .slice (some ⟨G, 0, none⟩) 9 9]).run Try.prog (wr.alloc (.cells #[] 5)) = .ok (.slice p2 9 c2) w2 at run2
            go_wp2_with (at_builtin; refine wpl_append rfl _ _ 26 rfl rfl rfl run2 ?_)
            go_ret
            obtain ⟨q1, q2, q3⟩ := HR2.out
            have hl : (255 :: leB n 8).length = 9 := by rw [List.length_cons, leB_length]
            rw [encS_9 h1 h2 h3, hl]
            refine ⟨p2, c2, o2, rfl, q1, ?_, ?_⟩
            · rw [hgw]; exact q2
            · rw [hgw]; exact q3
end Go.Proofs.Ytppcccocnmhbgaa
end

section
/- Data that came in, of any plain type: what its cells hold. The bulk bounds every length. -/
namespace Go.Proofs.Ytppcccocnmhbgaa
open Go Go.ChangeShapes Go.WideShapes Go.ChangeAt Go.RowKit
set_option linter.unusedVariables false

/-- are all types that t reaches plain ones? -/
def plainTy (P : Program) : Nat → TypeId → Bool
  | 0, _ => false
  | f + 1, t => match P.underlying t with
    | some (.int _) => true
    | some .bool => true
    | some .string => true
    | some (.slice e) => decide (0 < P.cellsOf e) && plainTy P f e
    | some (.struct fs) => fs.toList.all fun x => plainTy P f x.type
    | some (.array _ e) => plainTy P f e
    | _ => false
/-- cells from an address on -/
def CellsAt (w : World) (b o : Nat) (cs : List Value) : Prop := ∀ j, j < cs.length → w.cell? ⟨b, o + j, none⟩ = cs[j]?
/-- these cells are a value of type t, and what it leads to is there; no length beyond M -/
def Ok (P : Program) (w : World) (M : Nat) : Nat → TypeId → List Value → Prop
  | 0, _, _ => False
  | f + 1, t, cs => match P.underlying t with
    | some (.int k) => ∃ z, cs = [.int k z] ∧ (Lit.int k z).wf = true
    | some .bool => ∃ b, cs = [.bool b]
    | some .string => ∃ s : ByteArray, cs = [.string s] ∧ s.size ≤ M
    | some (.slice e) => ∃ a len cap, cs = [.slice a len cap] ∧ len ≤ cap ∧ cap ≤ M ∧ (a = none → cap = 0) ∧ ∀ i, i < len → ∃ b o cs', a = some ⟨b, o, none⟩ ∧ cs'.length = P.cellsOf e ∧ CellsAt w b (o + i * P.cellsOf e) cs' ∧ Ok P w M f e cs'
    | some (.struct fs) => cs.length = P.cellsOf t ∧ ∀ (i : Nat) x, fs[i]? = some x → Ok P w M f x.type ((cs.drop x.offset).take (P.cellsOf x.type))
    | some (.array n e) => cs.length = P.cellsOf t ∧ ∀ i, i < n → Ok P w M f e ((cs.drop (i * P.cellsOf e)).take (P.cellsOf e))
    | _ => False
section
variable {P : Program} {w : World} {M f : Nat} {t : TypeId} {cs : List Value}
theorem Ok.int {k : IntKind} (ht : P.underlying t = some (.int k)) (h : Ok P w M (f + 1) t cs) : ∃ z, cs = [.int k z] ∧ (Lit.int k z).wf = true := by
  unfold Ok at h; rw [ht] at h; exact h
theorem Ok.bool (ht : P.underlying t = some .bool) (h : Ok P w M (f + 1) t cs) : ∃ b, cs = [.bool b] := by
  unfold Ok at h; rw [ht] at h; exact h
theorem Ok.string (ht : P.underlying t = some .string) (h : Ok P w M (f + 1) t cs) : ∃ s : ByteArray, cs = [.string s] ∧ s.size ≤ M := by
  unfold Ok at h; rw [ht] at h; exact h
theorem Ok.slice {e : TypeId} (ht : P.underlying t = some (.slice e)) (h : Ok P w M (f + 1) t cs) : ∃ a len cap, cs = [.slice a len cap] ∧ len ≤ cap ∧ cap ≤ M ∧ (a = none → cap = 0) ∧ ∀ i, i < len → ∃ b o cs', a = some ⟨b, o, none⟩ ∧ cs'.length = P.cellsOf e ∧ CellsAt w b (o + i * P.cellsOf e) cs' ∧ Ok P w M f e cs' := by
  unfold Ok at h; rw [ht] at h; exact h
theorem Ok.struct {fs : Array Field} (ht : P.underlying t = some (.struct fs)) (h : Ok P w M (f + 1) t cs) : cs.length = P.cellsOf t ∧ ∀ (i : Nat) x, fs[i]? = some x → Ok P w M f x.type ((cs.drop x.offset).take (P.cellsOf x.type)) := by
  unfold Ok at h; rw [ht] at h; exact h
theorem Ok.array {n : Nat} {e : TypeId} (ht : P.underlying t = some (.array n e)) (h : Ok P w M (f + 1) t cs) : cs.length = P.cellsOf t ∧ ∀ i, i < n → Ok P w M f e ((cs.drop (i * P.cellsOf e)).take (P.cellsOf e)) := by
  unfold Ok at h; rw [ht] at h; exact h
theorem CellsAt.below {w w' : World} {b o : Nat} {cs : List Value} (h : CellsAt w b o cs) (hb : Below w.heap.size w w') : CellsAt w' b o cs := fun j hj => by
  have h1 := h j hj
  rw [List.getElem?_eq_getElem hj] at h1 ⊢
  exact (hb.cell (p := ⟨b, o + j, none⟩) (cell_lt h1)).trans h1
theorem Ok.below {w' : World} (hb : Below w.heap.size w w') : ∀ {f : Nat} {t : TypeId} {cs : List Value}, Ok P w M f t cs → Ok P w' M f t cs
  | 0, _, _, h => h
  | f + 1, t, cs, h => by
    unfold Ok at h ⊢
    split at h
    · exact h
    · exact h
    · exact h
    · obtain ⟨a, len, cap, h1, h2, h3, h4, h5⟩ := h
      exact ⟨a, len, cap, h1, h2, h3, h4, fun i hi => by
        obtain ⟨b, o, cs', e1, e2, e3, e4⟩ := h5 i hi
        exact ⟨b, o, cs', e1, e2, e3.below hb, Ok.below hb e4⟩⟩
    · exact ⟨h.1, fun i x hx => Ok.below hb (h.2 i x hx)⟩
    · exact ⟨h.1, fun i hi => Ok.below hb (h.2 i hi)⟩
    · exact h
end
theorem bulk_part {H : Type} {d : DataW H} {l : List (DataW H)} (h : d ∈ l) : Rows.uptoBulk d ≤ Rows.uptoBulkAll l := by
  induction l with
  | nil => cases h
  | cons x r ih =>
    simp only [Rows.uptoBulkAll]
    cases List.mem_cons.1 h with
    | inl e => subst e; omega
    | inr e => have := ih e; omega
theorem bulk_one {H : Type} (d : DataW H) : 1 ≤ Rows.uptoBulk d := by
  cases d with
  | lit l => cases l <;> simp [Rows.uptoBulk]
  | nil => simp [Rows.uptoBulk]
  | ptr d => simp [Rows.uptoBulk]
  | slice elems spare => simp [Rows.uptoBulk]
  | agg parts => simp [Rows.uptoBulk]
  | iface t d => simp [Rows.uptoBulk]
  | map entries => simp [Rows.uptoBulk]
  | held h => simp [Rows.uptoBulk]
theorem bulk_length {H : Type} (l : List (DataW H)) : l.length ≤ Rows.uptoBulkAll l := by
  induction l with
  | nil => simp [Rows.uptoBulkAll]
  | cons x r ih => have := bulk_one x; simp only [Rows.uptoBulkAll, List.length_cons]; omega
/-- WHAT CAME IN, of a plain type -/
theorem ok_of_trod {H : Type} {enc : TypeId × Value → H} {P : Program} {w : World} {M : Nat} : ∀ {f n : Nat} {t : TypeId} {cs : List Value} {x : DataW H × List MemPlace},
    plainTy P f t = true → DataW.trod enc P w 0 (fun _ => true) true n t cs = some x → Rows.uptoBulk x.1 ≤ M → Ok P w M f t cs
  | 0, _, _, _, _, h, _, _ => by simp [plainTy] at h
  | f + 1, n, t, cs, x, hp, h, hM => by
    unfold plainTy at hp
    unfold Ok
    split at hp <;> rename_i hu
    · obtain ⟨z, h1, _, h2⟩ := DataW.trod_int hu h
      exact ⟨z, h1, h2⟩
    · obtain ⟨b, h1, _⟩ := DataW.trod_bool hu h
      exact ⟨b, h1⟩
    · obtain ⟨s, h1, rfl, _⟩ := DataW.trod_string hu h
      refine ⟨s, h1, ?_⟩
      have e : s.data.toList.length = s.size := by rw [Array.length_toList]; rfl
      simp only [Rows.uptoBulk] at hM
      omega
    · rw [Bool.and_eq_true] at hp
      obtain ⟨hp0, hp⟩ := hp
      have hp0 := of_decide_eq_true hp0
      rcases Go.Deep.open_slice hu h with ⟨rfl, _⟩ | ⟨a, len, cap, m, n', D, Pl, rfl, _, hl, hm, hmm, rfl, hi⟩
      · exact ⟨none, 0, 0, rfl, Nat.le_refl _, Nat.zero_le _, fun _ => rfl, fun i hi => by omega⟩
      · simp only [if_true] at hmm
        subst hmm
        have h1 := bulk_length ((List.range len).map D)
        have h2 := bulk_length ((List.range (m - len)).map fun j => D (len + j))
        simp only [Rows.uptoBulk] at hM
        simp only [List.length_map, List.length_range] at h1 h2
        refine ⟨some a, len, m, rfl, hl, by omega, fun h => (by cases h), fun i hlt => ?_⟩
        obtain ⟨cs', hc, ht'⟩ := hi i (by omega)
        obtain ⟨_, hcl, hat⟩ := World.cells?_some hc
        have hD : Rows.uptoBulk (D i) ≤ M := by
          have := bulk_part (List.mem_map.2 ⟨i, List.mem_range.2 hlt, rfl⟩ : D i ∈ (List.range len).map D)
          omega
        have hOk := ok_of_trod hp ht' hD
        obtain ⟨b, o, s⟩ := a
        obtain ⟨cs0, hc0, _⟩ := hi 0 (by omega)
        obtain ⟨_, hcl0, hat0⟩ := World.cells?_some hc0
        have hat0 := hat0 0 hp0
        rw [List.getElem?_eq_getElem (by omega)] at hat0
        obtain rfl : s = none := by simpa [Addr.add] using World.cell?_spot hat0
        refine ⟨b, o, cs', rfl, hcl, fun j hj => ?_, hOk⟩
        have := hat j (by omega)
        rw [Go.Deep.add_add, Addr.add_lit, ← Nat.add_assoc] at this
        exact this
    · obtain ⟨xs, n', _, rfl, hl, hlen, hf⟩ := DataW.trod_struct hu h
      refine ⟨hl, fun i fd hfd => ?_⟩
      have hi := (Array.getElem?_eq_some_iff.1 hfd).1
      have h1 := hf i fd hfd
      rw [List.getElem?_eq_getElem (by omega)] at h1
      refine ok_of_trod (List.all_eq_true.1 hp fd (by
        rw [Array.mem_toList_iff]; exact Array.mem_of_getElem? hfd)) h1 ?_
      have := bulk_part (List.mem_map.2 ⟨xs[i]'(by omega), List.getElem_mem (by omega), rfl⟩ : (xs[i]'(by omega)).1 ∈ xs.map (·.1))
      simp only [Rows.uptoBulk] at hM
      omega
    · obtain ⟨xs, n', _, rfl, hl, hlen, hf⟩ := DataW.trod_array hu h
      refine ⟨hl, fun i hi => ?_⟩
      have h1 := hf i hi
      rw [List.getElem?_eq_getElem (by omega)] at h1
      refine ok_of_trod hp h1 ?_
      have := bulk_part (List.mem_map.2 ⟨xs[i]'(by omega), List.getElem_mem (by omega), rfl⟩ : (xs[i]'(by omega)).1 ∈ xs.map (·.1))
      simp only [Rows.uptoBulk] at hM
      omega
    · simp at hp
end Go.Proofs.Ytppcccocnmhbgaa
end

section
/- A block that came in: its header, transactions, inputs, outputs. -/
namespace Go.Proofs.Ytppcccocnmhbgaa
open Go Go.ChangeShapes Go.WideShapes Go.ChangeAt Go.RowKit
set_option linter.unusedVariables false
set_option maxRecDepth 100000

/-- n elements of k cells each in a slice that came in: what each has -/
def ElemsIn {α : Type} (w : World) (a : Option Addr) (n k : Nat) (cs : α → List Value) (ok : World → α → Prop) (X : Nat → α) : Prop :=
  ∀ i, i < n → ∃ b o, a = some ⟨b, o, none⟩ ∧ (cs (X i)).length = k ∧ CellsAt w b (o + i * k) (cs (X i)) ∧ ok w (X i)
theorem ElemsIn.below {α : Type} {w w' : World} {a : Option Addr} {n k : Nat} {cs : α → List Value} {ok : World → α → Prop} {X : Nat → α} (h : ElemsIn w a n k cs ok X) (hb : Below w.heap.size w w') (hok : ∀ x, ok w x → ok w' x) : ElemsIn w' a n k cs ok X := fun i hi => by
  obtain ⟨b, o, h1, h2, h3, h4⟩ := h i hi
  exact ⟨b, o, h1, h2, h3.below hb, hok _ h4⟩
theorem ElemsIn.row {α : Type} {w : World} {a : Option Addr} {n k : Nat} {cs : α → List Value} {ok : World → α → Prop} {X : Nat → α} (h : ElemsIn w a n k cs ok X) {i : Nat} (hi : i < n) : ok w (X i) := by
  obtain ⟨_, _, _, _, _, h⟩ := h i hi
  exact h
/-- a slice's head and its elements -/
structure SlD (α : Type) where
  a : Option Addr
  n : Nat
  c : Nat
  x : Nat → α
def SlD.cell {α : Type} (s : SlD α) : Value := .slice s.a s.n s.c
def SlOk {α : Type} (M k : Nat) (cs : α → List Value) (ok : World → α → Prop) (w : World) (s : SlD α) : Prop :=
  s.n ≤ s.c ∧ (s.n ≤ M ∧ s.c ≤ 9223372036854775807) ∧ (s.a = none → s.c = 0) ∧ ElemsIn w s.a s.n k cs ok s.x
theorem SlOk.below {α : Type} {M k : Nat} {cs : α → List Value} {ok : World → α → Prop} {w w' : World} {s : SlD α} (h : SlOk M k cs ok w s) (hb : Below w.heap.size w w') (hok : ∀ x, ok w x → ok w' x) : SlOk M k cs ok w' s :=
  ⟨h.1, h.2.1, h.2.2.1, h.2.2.2.below hb hok⟩
/-- a slice, out of what came in -/
theorem Ok.sl {α : Type} {P : Program} {w : World} {M f : Nat} {t e : TypeId} {c : List Value} {k : Nat} {cs : α → List Value} {ok : World → α → Prop} (hM : M ≤ 1048576) (ht : P.underlying t = some (.slice e)) (hk : P.cellsOf e = k) (h : Ok P w M (f + 1) t c) (x0 : α)
    (he : ∀ c', Ok P w M f e c' → ∃ x, c' = cs x ∧ ok w x) : ∃ s : SlD α, c = [s.cell] ∧ SlOk M k cs ok w s := by
  obtain ⟨a, len, cap, rfl, h1, h2, h3, h4⟩ := h.slice ht
  have each : ∀ i, i < len → ∃ x : α, ∃ b o, a = some ⟨b, o, none⟩ ∧ (cs x).length = k ∧ CellsAt w b (o + i * k) (cs x) ∧ ok w x := fun i hi => by
    obtain ⟨b, o, cs', e1, e2, e3, e4⟩ := h4 i hi
    obtain ⟨x, rfl, hx⟩ := he cs' e4
    rw [hk] at e2 e3
    exact ⟨x, b, o, e1, e2, e3, hx⟩
  rcases Nat.eq_zero_or_pos len with h0 | h0
  · exact ⟨⟨a, len, cap, fun _ => x0⟩, rfl, h1, ⟨Nat.le_trans h1 h2, Nat.le_trans h2 (by omega)⟩, h3, fun i hi => by have hi' : i < len := hi; omega⟩
  · have : Nonempty α := ⟨x0⟩
    have each' : ∀ i, ∃ x : α, i < len → ∃ b o, a = some ⟨b, o, none⟩ ∧ (cs x).length = k ∧ CellsAt w b (o + i * k) (cs x) ∧ ok w x := fun i => by
      rcases Nat.lt_or_ge i len with hi | hi
      · obtain ⟨x, hx⟩ := each i hi
        exact ⟨x, fun _ => hx⟩
      · exact ⟨x0, fun h => absurd h (by omega)⟩
    exact ⟨⟨a, len, cap, fun i => Classical.choose (each' i)⟩, rfl, h1, ⟨Nat.le_trans h1 h2, Nat.le_trans h2 (by omega)⟩, h3, fun i hi => Classical.choose_spec (each' i) hi⟩
/-- bytes: a row -/
structure RwD where
  a : Option Addr
  c : Nat
  z : List Int
def RwD.cell (r : RwD) : Value := .slice r.a r.z.length r.c
def RwOk (M : Nat) (w : World) (r : RwD) : Prop := RowOf w r.cell r.a r.c r.z ∧ r.z.length ≤ M
theorem RwOk.below {M : Nat} {w w' : World} {r : RwD} (h : RwOk M w r) (hb : Below w.heap.size w w') : RwOk M w' r := ⟨h.1.below hb, h.2⟩
theorem Ok.row {w : World} {M f : Nat} {c : List Value} (hM : M ≤ 1048576) (h : Ok Try.prog w M (f + 2) 26 c) : ∃ r : RwD, c = [r.cell] ∧ RwOk M w r := by
  obtain ⟨a, len, cap, rfl, h1, h2, h3, h4⟩ := h.slice Try.underlying26
  have hk : Try.prog.cellsOf 5 = 1 := by kernel_rfl
  have each : ∀ i, ∃ z : Int, i < len → ∃ b o, a = some ⟨b, o, none⟩ ∧ w.cell? ⟨b, o + i, none⟩ = some (.int .u8 z) ∧ 0 ≤ z ∧ z ≤ 255 := fun i => by
    rcases Nat.lt_or_ge i len with hi | hi
    · obtain ⟨b, o, cs', e1, e2, e3, e4⟩ := h4 i hi
      obtain ⟨z, rfl, hz⟩ := e4.int Try.underlying5
      rw [hk, Nat.mul_one] at e3
      exact ⟨z, fun _ => ⟨b, o, e1, by have := e3 0 (by simp); simpa using this, bounds_u8 hz⟩⟩
    · exact ⟨0, fun h => absurd h (by omega)⟩
  have hZ : ∃ Z : Nat → Int, ∀ i, i < len → ∃ b o, a = some ⟨b, o, none⟩ ∧ w.cell? ⟨b, o + i, none⟩ = some (.int .u8 (Z i)) ∧ 0 ≤ Z i ∧ Z i ≤ 255 := ⟨fun i => Classical.choose (each i), fun i hi => Classical.choose_spec (each i) hi⟩
  obtain ⟨Z, hZ⟩ := hZ
  have hl : ((List.range len).map Z).length = len := by simp
  refine ⟨⟨a, cap, (List.range len).map Z⟩, by unfold RwD.cell; rw [hl], ⟨rfl, ?_, by rw [hl]; omega, by rw [hl]; exact h1, by show cap ≤ _; omega, h3, fun y hy => ?_, fun q hq h0 => ?_⟩, by show ((List.range len).map Z).length ≤ M; rw [hl]; exact Nat.le_trans h1 h2⟩
  · rw [hl]
    refine fun h0 => ?_
    obtain ⟨b, o, e1, _⟩ := hZ 0 h0
    refine ⟨b, o, e1, fun i hi => ?_⟩
    obtain ⟨b', o', e2, e3, _⟩ := hZ i hi
    rw [e1] at e2
    cases e2
    rw [e3]
    simp [List.getD_eq_getElem?_getD, hi]
  · obtain ⟨i, hi, rfl⟩ := List.mem_map.1 hy
    obtain ⟨_, _, _, _, h1, h2⟩ := hZ i (List.mem_range.1 hi)
    exact ⟨h1, h2⟩
  · rw [hl] at h0
    obtain ⟨b, o, e1, e3, _⟩ := hZ 0 h0
    have hq' : a = some q := hq
    rw [e1] at hq'
    cases hq'
    exact cell_lt e3
theorem Ok.hash {w : World} {M f : Nat} {c : List Value} (h : Ok Try.prog w M (f + 2) 23 c) : ∃ n, n < W256 ∧ c = hls n := by
  obtain ⟨hl, h1⟩ := h.array (n := 32) (e := 5) Try.underlying23
  have hk : Try.prog.cellsOf 5 = 1 := by kernel_rfl
  have hk2 : Try.prog.cellsOf 23 = 32 := by kernel_rfl
  rw [hk2] at hl
  have each : ∀ i, ∃ z : Int, i < 32 → c[i]? = some (.int .u8 z) ∧ 0 ≤ z ∧ z ≤ 255 := fun i => by
    rcases Nat.lt_or_ge i 32 with hi | hi
    · have := h1 i hi
      rw [hk, Nat.mul_one] at this
      obtain ⟨z, e, hz⟩ := this.int Try.underlying5
      refine ⟨z, fun _ => ⟨?_, bounds_u8 hz⟩⟩
      have e2 := congrArg (fun l => l[0]?) e
      simpa [List.getElem?_take, List.getElem?_drop] using e2
    · exact ⟨0, fun h => absurd h (by omega)⟩
  have hZ : ∃ Z : Nat → Int, ∀ i, i < 32 → c[i]? = some (.int .u8 (Z i)) ∧ 0 ≤ Z i ∧ Z i ≤ 255 := ⟨fun i => Classical.choose (each i), fun i hi => Classical.choose_spec (each i) hi⟩
  obtain ⟨Z, hZ⟩ := hZ
  have b : ∀ i, i < 32 → 0 ≤ Z i ∧ Z i ≤ 255 := fun i hi => (hZ i hi).2
  refine ⟨hnum Z 32, hnum_lt Z 32 b, ?_⟩
  rw [← hls_of Z b]
  apply List.ext_getElem?
  intro i
  by_cases hi : i < 32
  · rw [(hZ i hi).1]; simp [hi]
  · rw [List.getElem?_eq_none (by omega), List.getElem?_eq_none (by simp; omega)]
/-- an output -/
structure OutD where
  val : Int
  script : RwD
def outCs (x : OutD) : List Value := [.int .i64 x.val, x.script.cell]
def OutOk (M : Nat) (w : World) (x : OutD) : Prop := RwOk M w x.script ∧ (Lit.int .i64 x.val).wf = true
/-- an input -/
structure InD where
  id : Nat
  index : Int
  script : RwD
  seq : Int
  wit : SlD RwD
def inCs (x : InD) : List Value := hls x.id ++ [.int .u32 x.index, x.script.cell, .int .u32 x.seq, x.wit.cell]
def InOk (M : Nat) (w : World) (x : InD) : Prop := x.id < W256 ∧ (Lit.int .u32 x.index).wf = true ∧ RwOk M w x.script ∧ (Lit.int .u32 x.seq).wf = true ∧ SlOk M 1 (fun r : RwD => [r.cell]) (RwOk M) w x.wit
/-- a transaction -/
structure TxD where
  ver : Int
  ins : SlD InD
  outs : SlD OutD
  lock : Int
def txCs (x : TxD) : List Value := [.int .u32 x.ver, x.ins.cell, x.outs.cell, .int .u32 x.lock]
def TxOk (M : Nat) (w : World) (x : TxD) : Prop := (Lit.int .u32 x.ver).wf = true ∧ SlOk M 36 inCs (InOk M) w x.ins ∧ SlOk M 2 outCs (OutOk M) w x.outs ∧ (Lit.int .u32 x.lock).wf = true
/-- a header -/
structure HdrD where
  ver : Int
  prev : Nat
  merkle : Nat
  time : Int
  bits : Int
  nonce : Int
def hdrCs (x : HdrD) : List Value := [.int .u32 x.ver] ++ hls x.prev ++ hls x.merkle ++ [.int .u32 x.time, .int .u32 x.bits, .int .u32 x.nonce]
def HdrOk (x : HdrD) : Prop := (Lit.int .u32 x.ver).wf = true ∧ x.prev < W256 ∧ x.merkle < W256 ∧ (Lit.int .u32 x.time).wf = true ∧ (Lit.int .u32 x.bits).wf = true ∧ (Lit.int .u32 x.nonce).wf = true
/-- a block -/
structure BlkD where
  hdr : HdrD
  txs : SlD TxD
def blkCs (x : BlkD) : List Value := hdrCs x.hdr ++ [x.txs.cell]
def BlkOk (M : Nat) (w : World) (x : BlkD) : Prop := HdrOk x.hdr ∧ SlOk M 4 txCs (TxOk M) w x.txs
section
variable {w w' : World} {M f : Nat}
theorem OutOk.below {x : OutD} (hb : Below w.heap.size w w') (h : OutOk M w x) : OutOk M w' x := ⟨h.1.below hb, h.2⟩
theorem InOk.below {x : InD} (hb : Below w.heap.size w w') (h : InOk M w x) : InOk M w' x := ⟨h.1, h.2.1, h.2.2.1.below hb, h.2.2.2.1, h.2.2.2.2.below hb (fun x hx => hx.below hb)⟩
theorem TxOk.below {x : TxD} (hb : Below w.heap.size w w') (h : TxOk M w x) : TxOk M w' x := ⟨h.1, h.2.1.below hb (fun x hx => InOk.below hb hx), h.2.2.1.below hb (fun x hx => OutOk.below hb hx), h.2.2.2⟩
theorem BlkOk.below {x : BlkD} (hb : Below w.heap.size w w') (h : BlkOk M w x) : BlkOk M w' x := ⟨h.1, h.2.below hb (fun x hx => TxOk.below hb hx)⟩
end
section
variable {w : World} {M f : Nat} {c : List Value}
theorem ok_out (hM : M ≤ 1048576) (h : Ok Try.prog w M (f + 3) 83 c) : ∃ x, c = outCs x ∧ OutOk M w x := by
  obtain ⟨hl, hf⟩ := h.struct Try.underlying83
  rw [show Try.prog.cellsOf 83 = 2 from by kernel_rfl] at hl
  obtain ⟨c0, c1, rfl⟩ : ∃ c0 c1, c = [c0, c1] := by
    match c, hl with
    | [c0, c1], _ => exact ⟨c0, c1, rfl⟩
  have k0 : Try.prog.cellsOf 2 = 1 := by kernel_rfl
  have k1 : Try.prog.cellsOf 26 = 1 := by kernel_rfl
  have g0 : Ok Try.prog w M (f + 2) 2 [c0] := by have := hf 0 _ rfl; simpa [k0] using this
  have g1 : Ok Try.prog w M (f + 2) 26 [c1] := by have := hf 1 _ rfl; simpa [k1] using this
  obtain ⟨z, e0, hz⟩ := g0.int Try.underlying2
  obtain ⟨r, e1, hr⟩ := g1.row hM
  cases e0; cases e1
  exact ⟨⟨z, r⟩, rfl, hr, hz⟩
theorem ok_wit (hM : M ≤ 1048576) (h : Ok Try.prog w M (f + 3) 24 c) : ∃ s : SlD RwD, c = [s.cell] ∧ SlOk M 1 (fun r : RwD => [r.cell]) (RwOk M) w s :=
  h.sl hM Try.underlying24 (by kernel_rfl) ⟨none, 0, []⟩ (fun c' hc => hc.row hM)
theorem ok_in (hM : M ≤ 1048576) (h : Ok Try.prog w M (f + 5) 113 c) : ∃ x, c = inCs x ∧ InOk M w x := by
  obtain ⟨hl, hf⟩ := h.struct Try.underlying113
  have k0 : Try.prog.cellsOf 111 = 33 := by kernel_rfl
  have k1 : Try.prog.cellsOf 26 = 1 := by kernel_rfl
  have k2 : Try.prog.cellsOf 36 = 1 := by kernel_rfl
  have k3 : Try.prog.cellsOf 24 = 1 := by kernel_rfl
  have k4 : Try.prog.cellsOf 23 = 32 := by kernel_rfl
  rw [show Try.prog.cellsOf 113 = 36 from by kernel_rfl] at hl
  have g0 : Ok Try.prog w M (f + 4) 111 (c.take 33) := by have := hf 0 _ rfl; simpa [k0] using this
  have g1 : Ok Try.prog w M (f + 4) 26 ((c.drop 33).take 1) := by have := hf 1 _ rfl; simpa [k1] using this
  have g2 : Ok Try.prog w M (f + 4) 36 ((c.drop 34).take 1) := by have := hf 2 _ rfl; simpa [k2] using this
  have g3 : Ok Try.prog w M (f + 4) 24 ((c.drop 35).take 1) := by have := hf 3 _ rfl; simpa [k3] using this
  obtain ⟨_, hp⟩ := g0.struct Try.underlying111
  have p0 : Ok Try.prog w M (f + 3) 23 (c.take 32) := by have := hp 0 _ rfl; simpa [k4, List.take_take] using this
  have p1 : Ok Try.prog w M (f + 3) 36 ((c.drop 32).take 1) := by
    have : Ok Try.prog w M (f + 3) 36 (((c.take 33).drop 32).take (Try.prog.cellsOf 36)) := hp 1 _ rfl
    rw [k2, List.drop_take, List.take_take] at this
    exact this
  obtain ⟨n, hn, e0⟩ := Ok.hash (f := f + 1) p0
  obtain ⟨ix, e1, hix⟩ := p1.int Try.underlying36
  obtain ⟨r, e2, hr⟩ := Ok.row (f := f + 2) hM g1
  obtain ⟨sq, e3, hsq⟩ := g2.int Try.underlying36
  obtain ⟨s, e4, hs⟩ := ok_wit (f := f + 1) hM g3
  refine ⟨⟨n, ix, r, sq, s⟩, ?_, hn, hix, hr, hsq, hs⟩
  have e : c = c.take 32 ++ ((c.drop 32).take 1 ++ ((c.drop 33).take 1 ++ ((c.drop 34).take 1 ++ (c.drop 35).take 1))) := by
    have s1 : (c.drop 35).take 1 = c.drop 35 := List.take_of_length_le (by rw [List.length_drop]; omega)
    have d1 : ∀ k, (c.drop k).take 1 ++ c.drop (k + 1) = c.drop k := fun k => by rw [← List.drop_drop]; exact List.take_append_drop 1 (c.drop k)
    rw [s1, d1 34, d1 33, d1 32, List.take_append_drop]
  rw [e, e0, e1, e2, e3, e4]
  rfl
theorem ok_tx (hM : M ≤ 1048576) (h : Ok Try.prog w M (f + 7) 80 c) : ∃ x, c = txCs x ∧ TxOk M w x := by
  obtain ⟨hl, hf⟩ := h.struct Try.underlying80
  rw [show Try.prog.cellsOf 80 = 4 from by kernel_rfl] at hl
  obtain ⟨c0, c1, c2, c3, rfl⟩ : ∃ c0 c1 c2 c3, c = [c0, c1, c2, c3] := by
    match c, hl with
    | [c0, c1, c2, c3], _ => exact ⟨c0, c1, c2, c3, rfl⟩
  have k0 : Try.prog.cellsOf 36 = 1 := by kernel_rfl
  have k1 : Try.prog.cellsOf 77 = 1 := by kernel_rfl
  have k2 : Try.prog.cellsOf 78 = 1 := by kernel_rfl
  have g0 : Ok Try.prog w M (f + 6) 36 [c0] := by have := hf 0 _ rfl; simpa [k0] using this
  have g1 : Ok Try.prog w M (f + 6) 77 [c1] := by have := hf 1 _ rfl; simpa [k1] using this
  have g2 : Ok Try.prog w M (f + 6) 78 [c2] := by have := hf 2 _ rfl; simpa [k2] using this
  have g3 : Ok Try.prog w M (f + 6) 36 [c3] := by have := hf 3 _ rfl; simpa [k0] using this
  obtain ⟨v, e0, hv⟩ := g0.int Try.underlying36
  obtain ⟨si, e1, hi⟩ := Ok.sl (f := f + 5) hM Try.underlying77 (by kernel_rfl) g1 (⟨0, 0, ⟨none, 0, []⟩, 0, ⟨none, 0, 0, fun _ => ⟨none, 0, []⟩⟩⟩ : InD) (fun c' hc => ok_in hM hc)
  obtain ⟨so, e2, ho⟩ := Ok.sl (f := f + 5) hM Try.underlying78 (by kernel_rfl) g2 (⟨0, ⟨none, 0, []⟩⟩ : OutD) (fun c' hc => ok_out (f := f + 2) hM hc)
  obtain ⟨lk, e3, hlk⟩ := g3.int Try.underlying36
  cases e0; cases e1; cases e2; cases e3
  exact ⟨⟨v, si, so, lk⟩, rfl, hv, hi, ho, hlk⟩
theorem ok_hdr (h : Ok Try.prog w M (f + 3) 38 c) : ∃ x, c = hdrCs x ∧ HdrOk x := by
  obtain ⟨hl, hf⟩ := h.struct Try.underlying38
  rw [show Try.prog.cellsOf 38 = 68 from by kernel_rfl] at hl
  have k0 : Try.prog.cellsOf 36 = 1 := by kernel_rfl
  have k4 : Try.prog.cellsOf 23 = 32 := by kernel_rfl
  have g0 : Ok Try.prog w M (f + 2) 36 (c.take 1) := by have := hf 0 _ rfl; simpa [k0] using this
  have g1 : Ok Try.prog w M (f + 2) 23 ((c.drop 1).take 32) := by have := hf 1 _ rfl; simpa [k4] using this
  have g2 : Ok Try.prog w M (f + 2) 23 ((c.drop 33).take 32) := by have := hf 2 _ rfl; simpa [k4] using this
  have g3 : Ok Try.prog w M (f + 2) 36 ((c.drop 65).take 1) := by have := hf 3 _ rfl; simpa [k0] using this
  have g4 : Ok Try.prog w M (f + 2) 36 ((c.drop 66).take 1) := by have := hf 4 _ rfl; simpa [k0] using this
  have g5 : Ok Try.prog w M (f + 2) 36 ((c.drop 67).take 1) := by have := hf 5 _ rfl; simpa [k0] using this
  obtain ⟨v, e0, hv⟩ := g0.int Try.underlying36
  obtain ⟨n, hn, e1⟩ := g1.hash
  obtain ⟨m, hm, e2⟩ := g2.hash
  obtain ⟨t, e3, ht⟩ := g3.int Try.underlying36
  obtain ⟨b, e4, hb⟩ := g4.int Try.underlying36
  obtain ⟨o, e5, ho⟩ := g5.int Try.underlying36
  refine ⟨⟨v, n, m, t, b, o⟩, ?_, hv, hn, hm, ht, hb, ho⟩
  have e : c = c.take 1 ++ ((c.drop 1).take 32 ++ ((c.drop 33).take 32 ++ ((c.drop 65).take 1 ++ ((c.drop 66).take 1 ++ (c.drop 67).take 1)))) := by
    have s1 : (c.drop 67).take 1 = c.drop 67 := List.take_of_length_le (by rw [List.length_drop]; omega)
    have d1 : ∀ k m, (c.drop k).take m ++ c.drop (k + m) = c.drop k := fun k m => by rw [← List.drop_drop]; exact List.take_append_drop m (c.drop k)
    rw [s1, d1 66 1, d1 65 1, d1 33 32, d1 1 32, List.take_append_drop]
  rw [e, e0, e1, e2, e3, e4, e5]
  simp [hdrCs]
theorem ok_blk (hM : M ≤ 1048576) (h : Ok Try.prog w M (f + 9) 41 c) : ∃ x, c = blkCs x ∧ BlkOk M w x := by
  obtain ⟨hl, hf⟩ := h.struct Try.underlying41
  rw [show Try.prog.cellsOf 41 = 69 from by kernel_rfl] at hl
  have k0 : Try.prog.cellsOf 38 = 68 := by kernel_rfl
  have k1 : Try.prog.cellsOf 39 = 1 := by kernel_rfl
  have g0 : Ok Try.prog w M (f + 8) 38 (c.take 68) := by have := hf 0 _ rfl; simpa [k0] using this
  have g1 : Ok Try.prog w M (f + 8) 39 ((c.drop 68).take 1) := by have := hf 1 _ rfl; simpa [k1] using this
  obtain ⟨h0, e0, hh⟩ := ok_hdr (f := f + 5) g0
  obtain ⟨st, e1, ht⟩ := Ok.sl (f := f + 7) hM Try.underlying39 (by kernel_rfl) g1 (⟨0, ⟨none, 0, 0, fun _ => ⟨0, 0, ⟨none, 0, []⟩, 0, ⟨none, 0, 0, fun _ => ⟨none, 0, []⟩⟩⟩⟩, ⟨none, 0, 0, fun _ => ⟨0, ⟨none, 0, []⟩⟩⟩, 0⟩ : TxD) (fun c' hc => ok_tx hM hc)
  refine ⟨⟨h0, st⟩, ?_, hh, ht⟩
  have e : c = c.take 68 ++ (c.drop 68).take 1 := by
    rw [show (c.drop 68).take 1 = c.drop 68 from List.take_of_length_le (by rw [List.length_drop]; omega), List.take_append_drop]
  rw [e, e0, e1]
  rfl
end
end Go.Proofs.Ytppcccocnmhbgaa
end

section
/- The library's: slices.Grow of nil, slices.Concat, at [][]byte. -/
namespace Go.Proofs.Ytppcccocnmhbgaa
open Go Go.RowKit
set_option linter.unusedSimpArgs false
set_option linter.unusedVariables false
set_option maxRecDepth 100000

set_option maxHeartbeats 1600000 in
theorem grow_R (i0 : TypeInfo) (hi : Try.prog.info? 26 = some i0) (hz0 : i0.zero = some (.slice none 0 0)) (hz1 : i0.size = 1) (hz2 : i0.bytes = 24) (n : Nat) (hn : n * 24 ≤ 140737488355328) (w : World) :
    Calls Try.prog 44 #[.slice none 0 0, .int .i64 (n : Int)] w fun e w' => ∃ v o, e = .returned v ∧ RowV w' 26 1 v 0 [] o ∧ (∀ g, o = some g → w.heap.size ≤ g) ∧ Below w.heap.size w w' := by
  by_cases h0 : 0 < n
  · obtain ⟨g, cap, w1, run1, R, hcap, hcm, hg, hb⟩ := run_append_room_nil (P := Try.prog) w 24 3 24 26 i0 (.slice none 0 0) Try.underlying24 Try.underlying3 hi hz0 hz1 rfl n h0 (by rw [hz2]; exact hn) (by omega)
    have H := Lib.hid (And.intro R (And.intro hg hb))
    unfold maxLen at hcm
    have h1 : ¬ ((n : Int) < 0) := by omega
    have h2 : (0 : Int) < (n : Int) := by omega
    have h3 : (n : Int) ≤ 140737488355328 := by omega
    clear R hg hb h0 hn
    go_enter Try.func44, Try.ntmps44
    go_wp2_with (at_builtin; refine Lib.wpList_append_run _ rfl _ _ _ _ rfl _ _ rfl rfl _ _ run1 ?_)
    go_ret
    exact ⟨_, rfl, some g, H.out.1, fun g' e => (by cases e; exact H.out.2.1), H.out.2.2⟩
  · obtain rfl : n = 0 := by omega
    go_enter Try.func44, Try.ntmps44
    go_wp2
    go_ret
    exact ⟨_, none, rfl, RowV.nil _ _ _, fun g' e => (by cases e), Below.refl _ _⟩
theorem info_R : (Try.prog.info? 26).map (fun i => (i.zero, i.size, i.bytes)) = some (some (.slice none 0 0), 1, 24) := by kernel_rfl
set_option maxHeartbeats 3200000 in
theorem concat_R (q : Option Addr) (n c : Nat) (A : Nat → Option Addr) (L C : Nat → Nat) (cs : Nat → List Value) (w : World) (h : CatIn w q n A L C cs) (hn : n ≤ 1000000) (hl : lenL L n * 24 ≤ 140737488355328) :
    Calls Try.prog 18 #[.slice q n c] w fun e w' => ∃ v o, e = .returned v ∧ RowV w' 26 1 v (lenL L n) (catL cs n) o ∧ (∀ g, o = some g → w.heap.size ≤ g) ∧ Below w.heap.size w w' := by
  obtain ⟨i0, hi, hz0, hz1, hz2⟩ := info_parts info_R
  have HI := Lib.hid (And.intro hi (And.intro hz0 (And.intro hz1 hz2)))
  have PG := Lib.hid (grow_R i0 hi hz0 hz1 hz2 (lenL L n) hl w)
  have HC := Lib.hid h
  have HLL := Lib.hid hl
  have hl63 : lenL L n ≤ 140737488355328 := by omega
  clear h hi hz0 hz1 hz2 hl
  go_enter Try.func18, Try.ntmps18
  go_wp2
  go_loopg [3, 11] n (fun gh s i wx => ∃ k t : Nat, k ≤ n ∧ t ≤ 140737488355328 ∧ s = .int .i64 (t : Int) ∧ i = .int .i64 (k : Int) ∧ gh = n - k ∧ Hid (t = lenL L k) ∧ wx = w)
  case atStart => exact ⟨0, 0, Nat.zero_le _, Nat.zero_le _, rfl, rfl, rfl, rfl, rfl⟩
  case round =>
    obtain ⟨k, t, hk, ht, rfl, rfl, hg, HT, hwx⟩ := hrel
    obtain rfl : w = wr := hwx.symm
    have HGK := Lib.hid hg
    clear hg
    by_cases hlt : k < n
    · obtain ⟨b, o, rfl, hc, hlen, _, _⟩ := HC.out k hlt
      have hsum : t + L k ≤ 140737488355328 := by
        have h1 : lenL L (k + 1) ≤ lenL L n := lenL_mono L hlt
        have h2 : lenL L (k + 1) = lenL L k + L k := rfl
        have h3 := HT.out
        omega
      have HS := Lib.hid hsum
      have hLk : L k ≤ 140737488355328 := by omega
      have hnn : ¬ ((t : Int) + (L k : Int) < 0) := by omega
      have hww : IntKind.i64.wrap ((t : Int) + (L k : Int)) = (t : Int) + (L k : Int) := by rw [IntKind.wrap_i64]; omega
      clear hsum hlen
      go_wp2
      go_roundg (n - (k + 1))
      case measure => rw [HGK.out]; omega
      case rel => exact ⟨k + 1, t + L k, hlt, HS.out, congrArg (Value.int .i64) (by omega), rfl, rfl, by show t + L k = lenL L k + L k; rw [HT.out], rfl⟩
    · obtain rfl : k = n := by omega
      have ht2 := HT.out
      subst ht2
      go_wp2_with fail
      refine PG.out.mono ?_
      rintro e w1 ⟨v, o, rfl, R, ho, hb⟩
      have HR := Lib.hid (And.intro R (And.intro ho hb))
      clear R ho hb
      go_wp2
      generalize hgw : w.heap.size = G at *
      go_loopg [6, 27] k (fun gh s i wx => ∃ (j : Nat) (v : Value) (o : Option Nat), j ≤ k ∧ s = v ∧ i = .int .i64 (j : Int) ∧ gh = k - j ∧ Hid (RowV wx 26 1 v (lenL L j) (catL cs j) o ∧ (∀ g, o = some g → G ≤ g) ∧ Below G w wx))
      case atStart => exact ⟨0, v, o, Nat.zero_le _, rfl, rfl, rfl, HR.out⟩
      case round =>
        obtain ⟨j, v, o, hj, rfl, rfl, hg, HJ⟩ := hrel
        have HGJ := Lib.hid hg
        clear hg
        by_cases hlt : j < k
        · have hlen : lenL L (j + 1) ≤ lenL L k := lenL_mono L hlt
          obtain ⟨b, o2, rfl, hc, hln, h1, hp⟩ := (HC.out.below (by rw [hgw]; exact HJ.out.2.2)) j hlt
          obtain ⟨v2, w2, o3, run2, R2, ho2, hk2⟩ := rowV_appendN (P := Try.prog) 24 24 i0 (.slice none 0 0) Try.underlying24 HI.out.1 HI.out.2.1 HI.out.2.2.1 HI.out.2.2.2 rfl HJ.out.1 (c := C j) hln h1 hp (by
              have h2 : lenL L (j + 1) = lenL L j + L j := rfl
              unfold maxLen; omega) (by
              have h2 : lenL L (j + 1) = lenL L j + L j := rfl
              rw [← h2]; exact Nat.le_trans (Nat.mul_le_mul_right _ hlen) HLL.out)
          have HN := Lib.hid (And.intro R2 (own_step hgw HJ.out.2.2 HJ.out.2.1 ho2 hk2))
          obtain ⟨q1, c1, rfl, _⟩ := HJ.out.1.form
          clear hlen hln h1 hp R2 ho2 hk2
          go_wp2_with (at_builtin; refine wpl_append rfl _ _ 24 rfl rfl rfl run2 ?_)
          go_roundg (k - (j + 1))
          case measure => rw [HGJ.out]; omega
          case rel => exact ⟨j + 1, v2, o3, hlt, rfl, rfl, rfl, HN.out.1, HN.out.2.1, HN.out.2.2⟩
        · obtain rfl : j = k := by omega
          subst hgw
          go_wp2
          go_ret
          exact ⟨_, o, rfl, HJ.out.1, HJ.out.2.1, HJ.out.2.2⟩
end Go.Proofs.Ytppcccocnmhbgaa
end
